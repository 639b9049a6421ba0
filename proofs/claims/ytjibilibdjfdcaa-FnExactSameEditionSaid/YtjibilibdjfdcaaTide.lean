/- Tides: validity, end, equality on both sides. -/
import Derived.Test.YtjibilibdjfdcaaNames
import Derived.Test.YtjibilibdjfdcaaTTide
namespace Go.Proofs.Ytjibilibdjfdcaa
open Go.RowKit Go.Sort
set_option maxRecDepth 100000

def htB (h : Int) : Bool := inB h (-100) 1500
def timeB (n : Int) : Bool := inB n 0 143999999
def tideEnd (a b : Int) (xs : List Int) : Int := a + b * ((xs.length : Int) - 1)
def tideB (a b : Int) (xs : List Int) : Bool := xs.all htB && (inB xs.length 2 64 && inB b 60 1000 && timeB a && timeB (tideEnd a b xs))
theorem tideB_true {a b : Int} {xs : List Int} (h : tideB a b xs = true) : (∀ x ∈ xs, -100 ≤ x ∧ x ≤ 1500) ∧ 2 ≤ xs.length ∧ xs.length ≤ 64 ∧ 60 ≤ b ∧ b ≤ 1000 ∧ 0 ≤ a ∧ a ≤ 143999999 ∧ 0 ≤ tideEnd a b xs ∧ tideEnd a b xs ≤ 143999999 := by
  simp only [tideB, timeB, Bool.and_eq_true, List.all_eq_true] at h
  obtain ⟨h1, ⟨⟨h2, h3⟩, h4⟩, h5⟩ := h
  have := inB_true h2; have := inB_true h3; have := inB_true h4; have := inB_true h5
  refine ⟨fun x hx => by have := inB_true (h1 x hx); omega, ?_⟩
  omega

/-! ### equality and the end -/
def sameI (xs ys : List Int) : Bool := decide (xs = ys)
theorem take_all_eq (xs ys : List Int) (hl : xs.length = ys.length) (k : Nat) (hk : xs.length ≤ k) (h : xs.take k = ys.take k) : xs = ys := by
  rw [List.take_of_length_le hk, List.take_of_length_le (by omega)] at h; exact h
theorem take_snoc_eq (xs ys : List Int) (k : Nat) (h : k < xs.length) (h' : k < ys.length) (ht : xs.take k = ys.take k) (he : xs[k] = ys[k]) : xs.take (k + 1) = ys.take (k + 1) := by
  rw [List.take_succ_eq_append_getElem h, List.take_succ_eq_append_getElem h', ht, he]
set_option maxHeartbeats 400000 in
theorem c_l00Same (v v' : Value) (xs ys : List Int) (w : World) (h : SlA w 0 1 encI v xs) (h' : SlA w 0 1 encI v' ys) :
    Calls Try.prog 55 #[v, v'] w fun e w' => e = .returned (.bool (sameI xs ys)) ∧ Below w.heap.size w w' := by
  obtain ⟨ad, cap, b, off, rfl, hm, had, hx⟩ := h.uni
  obtain ⟨ad', cap', b', off', rfl, hm', had', hx'⟩ := h'.uni
  by_cases hl : xs.length = ys.length
  · have hlB : ((xs.length : Int) != (ys.length : Int)) = false := by simp [hl]
    have HL := hid hl
    clear hl
    go_enter Try.func55, Try.ntmps55
    go_wp2
    go_loopw [5] (fun i wr => ∃ k : Nat, k ≤ xs.length ∧ i = .int .i64 k ∧ xs.take k = ys.take k ∧ Below w.heap.size w wr) (fun i _ => xs.length - (intOf i).toNat)
    case atStart => exact ⟨0, Nat.zero_le _, rfl, by simp, by (repeat' (first | (with_reducible exact Below.refl _ _) | (with_reducible refine Below.alloc ?_ ?_ _) | (with_reducible refine Below.drew ?_) | (with_reducible refine below_drewN ?_ _) | (with_reducible refine Below.setCell ?_ ?_ _) | (with_reducible refine below_via ‹_› ?_ ?_) | (with_reducible refine below_grow ?_ ?_ _ _) | omega | (simp; done) | (simp; omega)))⟩
    case round =>
      obtain ⟨k, hk, rfl, ht, hB⟩ := hrel
      have HT := hid ht; clear ht
      by_cases hlt : k < xs.length
      · have hlI : (k : Int) < xs.length := by omega
        have hlt' : k < ys.length := by have := HL.out; omega
        have hlI' : (k : Int) < ys.length := by omega
        obtain ⟨rfl, hbb, -, hcc, hmc⟩ := had (by omega)
        obtain ⟨rfl, hbb', -, hcc', hmc'⟩ := had' (by omega)
        have g0 := (hB.cell (p := ⟨b, off + k * 1 + 0, none⟩) hbb).trans (hx k hlt 0 (by omega))
        have g1 := (hB.cell (p := ⟨b', off' + k * 1 + 0, none⟩) hbb').trans (hx' k hlt' 0 (by omega))
        simp only [encI, List.getD_cons_zero, Nat.add_zero, Nat.mul_one] at g0 g1
        clear hx hx'
        by_cases he : xs[k] = ys[k]
        · have heB : (xs[k] != ys[k]) = false := by simp [he]
          have HE := hid he
          clear he
          go_wp2
          go_quiet (fail)
          go_wp2
          go_roundw
          case rel => exact ⟨k + 1, by omega, by go_num, take_snoc_eq xs ys k hlt hlt' HT.out HE.out, by (repeat' (first | (with_reducible exact Below.refl _ _) | (with_reducible refine Below.alloc ?_ ?_ _) | (with_reducible refine Below.drew ?_) | (with_reducible refine below_drewN ?_ _) | (with_reducible refine Below.setCell ?_ ?_ _) | (with_reducible refine below_via ‹_› ?_ ?_) | (with_reducible refine below_grow ?_ ?_ _ _) | omega | (simp; done) | (simp; omega)))⟩
          case measure => simp [intOf]; omega
        · have heB : (xs[k] != ys[k]) = true := by simp [he]
          have HE := hid he
          clear he
          go_wp2
          go_quiet (fail)
          go_wp2
          go_ret
          exact ⟨ret_bool (by have := HE.out; simp only [sameI]; exact (decide_eq_false (fun hh => this (by subst hh; rfl))).symm), by (repeat' (first | (with_reducible exact Below.refl _ _) | (with_reducible refine Below.alloc ?_ ?_ _) | (with_reducible refine Below.drew ?_) | (with_reducible refine below_drewN ?_ _) | (with_reducible refine Below.setCell ?_ ?_ _) | (with_reducible refine below_via ‹_› ?_ ?_) | (with_reducible refine below_grow ?_ ?_ _ _) | omega | (simp; done) | (simp; omega)))⟩
      · clear hx hx'
        go_wp2
        go_ret
        exact ⟨ret_bool (by simp only [sameI]; exact (decide_eq_true (take_all_eq xs ys HL.out k (by omega) HT.out)).symm), by (repeat' (first | (with_reducible exact Below.refl _ _) | (with_reducible refine Below.alloc ?_ ?_ _) | (with_reducible refine Below.drew ?_) | (with_reducible refine below_drewN ?_ _) | (with_reducible refine Below.setCell ?_ ?_ _) | (with_reducible refine below_via ‹_› ?_ ?_) | (with_reducible refine below_grow ?_ ?_ _ _) | omega | (simp; done) | (simp; omega)))⟩
  · have hlB : ((xs.length : Int) != (ys.length : Int)) = true := by simp; omega
    have HL := hid hl
    clear hl
    go_enter Try.func55, Try.ntmps55
    go_wp2
    go_ret
    exact ⟨ret_bool (by have := HL.out; simp only [sameI]; exact (decide_eq_false (fun hh => this (by rw [hh]))).symm), by (repeat' (first | (with_reducible exact Below.refl _ _) | (with_reducible refine Below.alloc ?_ ?_ _) | (with_reducible refine Below.drew ?_) | (with_reducible refine below_drewN ?_ _) | (with_reducible refine Below.setCell ?_ ?_ _) | (with_reducible refine below_via ‹_› ?_ ?_) | (with_reducible refine below_grow ?_ ?_ _ _) | omega | (simp; done) | (simp; omega)))⟩
set_option maxHeartbeats 400000 in
theorem c_same_int64 (v v' : Value) (xs ys : List Int) (w : World) (h : SlA w 0 1 encI v xs) (h' : SlA w 0 1 encI v' ys) :
    Calls Try.prog 58 #[v, v'] w fun e w' => e = .returned (.bool (sameI xs ys)) ∧ Below w.heap.size w w' := by
  obtain ⟨ad, cap, b, off, rfl, hm, had, hx⟩ := h.uni
  obtain ⟨ad', cap', b', off', rfl, hm', had', hx'⟩ := h'.uni
  by_cases hl : xs.length = ys.length
  · have hlB : ((xs.length : Int) != (ys.length : Int)) = false := by simp [hl]
    have HL := hid hl
    clear hl
    go_enter Try.func58, Try.ntmps58
    go_wp2
    go_loopw [13] (fun i wr => ∃ k : Nat, k ≤ xs.length ∧ i = .int .i64 k ∧ xs.take k = ys.take k ∧ Below w.heap.size w wr) (fun i _ => xs.length - (intOf i).toNat)
    case atStart => exact ⟨0, Nat.zero_le _, rfl, by simp, by (repeat' (first | (with_reducible exact Below.refl _ _) | (with_reducible refine Below.alloc ?_ ?_ _) | (with_reducible refine Below.drew ?_) | (with_reducible refine below_drewN ?_ _) | (with_reducible refine Below.setCell ?_ ?_ _) | (with_reducible refine below_via ‹_› ?_ ?_) | (with_reducible refine below_grow ?_ ?_ _ _) | omega | (simp; done) | (simp; omega)))⟩
    case round =>
      obtain ⟨k, hk, rfl, ht, hB⟩ := hrel
      have HT := hid ht; clear ht
      by_cases hlt : k < xs.length
      · have hlI : (k : Int) < xs.length := by omega
        have hlt' : k < ys.length := by have := HL.out; omega
        have hlI' : (k : Int) < ys.length := by omega
        obtain ⟨rfl, hbb, -, hcc, hmc⟩ := had (by omega)
        obtain ⟨rfl, hbb', -, hcc', hmc'⟩ := had' (by omega)
        have g0 := (hB.cell (p := ⟨b, off + k * 1 + 0, none⟩) hbb).trans (hx k hlt 0 (by omega))
        have g1 := (hB.cell (p := ⟨b', off' + k * 1 + 0, none⟩) hbb').trans (hx' k hlt' 0 (by omega))
        simp only [encI, List.getD_cons_zero, Nat.add_zero, Nat.mul_one] at g0 g1
        clear hx hx'
        by_cases he : xs[k] = ys[k]
        · have heB : (xs[k] != ys[k]) = false := by simp [he]
          have HE := hid he
          clear he
          go_wp2
          go_quiet (fail)
          go_wp2
          go_roundw
          case rel => exact ⟨k + 1, by omega, by go_num, take_snoc_eq xs ys k hlt hlt' HT.out HE.out, by (repeat' (first | (with_reducible exact Below.refl _ _) | (with_reducible refine Below.alloc ?_ ?_ _) | (with_reducible refine Below.drew ?_) | (with_reducible refine below_drewN ?_ _) | (with_reducible refine Below.setCell ?_ ?_ _) | (with_reducible refine below_via ‹_› ?_ ?_) | (with_reducible refine below_grow ?_ ?_ _ _) | omega | (simp; done) | (simp; omega)))⟩
          case measure => simp [intOf]; omega
        · have heB : (xs[k] != ys[k]) = true := by simp [he]
          have HE := hid he
          clear he
          go_wp2
          go_quiet (fail)
          go_wp2
          go_ret
          exact ⟨ret_bool (by have := HE.out; simp only [sameI]; exact (decide_eq_false (fun hh => this (by subst hh; rfl))).symm), by (repeat' (first | (with_reducible exact Below.refl _ _) | (with_reducible refine Below.alloc ?_ ?_ _) | (with_reducible refine Below.drew ?_) | (with_reducible refine below_drewN ?_ _) | (with_reducible refine Below.setCell ?_ ?_ _) | (with_reducible refine below_via ‹_› ?_ ?_) | (with_reducible refine below_grow ?_ ?_ _ _) | omega | (simp; done) | (simp; omega)))⟩
      · clear hx hx'
        go_wp2
        go_ret
        exact ⟨ret_bool (by simp only [sameI]; exact (decide_eq_true (take_all_eq xs ys HL.out k (by omega) HT.out)).symm), by (repeat' (first | (with_reducible exact Below.refl _ _) | (with_reducible refine Below.alloc ?_ ?_ _) | (with_reducible refine Below.drew ?_) | (with_reducible refine below_drewN ?_ _) | (with_reducible refine Below.setCell ?_ ?_ _) | (with_reducible refine below_via ‹_› ?_ ?_) | (with_reducible refine below_grow ?_ ?_ _ _) | omega | (simp; done) | (simp; omega)))⟩
  · have hlB : ((xs.length : Int) != (ys.length : Int)) = true := by simp; omega
    have HL := hid hl
    clear hl
    go_enter Try.func58, Try.ntmps58
    go_wp2
    go_ret
    exact ⟨ret_bool (by have := HL.out; simp only [sameI]; exact (decide_eq_false (fun hh => this (by rw [hh]))).symm), by (repeat' (first | (with_reducible exact Below.refl _ _) | (with_reducible refine Below.alloc ?_ ?_ _) | (with_reducible refine Below.drew ?_) | (with_reducible refine below_drewN ?_ _) | (with_reducible refine Below.setCell ?_ ?_ _) | (with_reducible refine below_via ‹_› ?_ ?_) | (with_reducible refine below_grow ?_ ?_ _ _) | omega | (simp; done) | (simp; omega)))⟩
def sameTideB (a b : Int) (xs : List Int) (a' b' : Int) (ys : List Int) : Bool := (a == a') && ((b == b') && sameI xs ys)

def tideEndR (a b : Int) (xs : List Int) : Int := if tideB a b xs then tideEnd a b xs else 0
def tideC (a b : Int) (xs : List Int) : Int := if tideB a b xs then 0 else 1
end Go.Proofs.Ytjibilibdjfdcaa
