/- A frame of the archive's bytes, the reference's side. -/
import Derived.Test.YtocpgnpdnoidnaaDoorFrm
import Derived.Deep.RegionHeld3
namespace Go.Proofs.YtocpgnpdnoidnaaDoor
open Go.RowKit Go.Sort
set_option linter.unusedVariables false
set_option maxRecDepth 100000

theorem lst_len (s : ByteArray) (p : Nat) : (s.data.toList.drop p).length = s.size - p := by rw [List.length_drop]; show s.data.toList.length - p = _; simp
/-- the line from a place on -/
def LineP (s : ByteArray) (p : Nat) (w : World) (e : Ending) (w' : World) : Prop := w = w' ∧ match nlO (s.data.toList.drop p) with
  | none => e = .returned (.tuple #[.string ⟨#[]⟩, .int .i64 0, .bool false])
  | some j => e = .returned (.tuple #[.string (s.extract p (p + j)), .int .i64 ((p + j + 1 : Nat) : Int), .bool true])
theorem lineP_none {s : ByteArray} {p : Nat} {w : World} (h : nlO (s.data.toList.drop p) = none) : LineP s p w (.returned (.tuple #[.string ⟨#[]⟩, .int .i64 0, .bool false])) w := ⟨rfl, by rw [h]⟩
theorem lineP_some {s : ByteArray} {p k : Nat} {w : World} (hk : p ≤ k) (h : nlO (s.data.toList.drop p) = some (k - p)) : LineP s p w (.returned (.tuple #[.string (s.extract p k), .int .i64 ((k : Int) + 1), .bool true])) w := ⟨rfl, by rw [h]; show _ = Ending.returned _; rw [show p + (k - p) = k by omega]; rfl⟩
set_option maxHeartbeats 2000000 in
theorem c_l24Line (s : ByteArray) (p : Nat) (w : World) (hs : (s.size : Int) ≤ 1048576) (hp : p ≤ s.size) :
    Calls Tryd.prog 89 #[.string s, .int .i64 p] w (LineP s p w) := by
  obtain ⟨l, hl⟩ : ∃ l, l = s.data.toList.drop p := ⟨_, rfl⟩
  have hll : l.length = s.size - p := by rw [hl]; exact lst_len s p
  have HG := hid (show ∀ k (h : k < s.size) (h1 : p ≤ k) (h' : k - p < l.length), l[k - p] = s[k] from fun k h h1 h' => by
    subst hl
    rw [List.getElem_drop]
    have := data_get s k h
    simpa [show p + (k - p) = k by omega] using this)
  have HL := hid hl
  have hpI : (p : Int) ≤ s.size := by omega
  clear hl
  go_enter Tryd.func89, Tryd.ntmps89
  go_wp2
  go_loopw [7] (fun i wr => ∃ k : Nat, p ≤ k ∧ k ≤ s.size ∧ i = .int .i64 k ∧ (10 : UInt8) ∉ l.take (k - p) ∧ wr = w) (fun i _ => s.size - (intOf i).toNat)
  case atStart => exact ⟨p, Nat.le_refl _, by omega, rfl, by simp, rfl⟩
  case round =>
    obtain ⟨k, hpk, hk, rfl, hn, rfl⟩ := hrel
    have hpkI : (p : Int) ≤ k := by omega
    by_cases hlt : k < s.size
    · have hlI : (k : Int) < s.size := by omega
      have hkl : k - p < l.length := by omega
      have hlk : l[k - p] = s[k] := HG.out k hlt hpk hkl
      cases hc : ((s[k].toNat : Int) == 10)
      · have hne : l[k - p] ≠ 10 := by rw [hlk]; intro e; rw [e] at hc; simp at hc
        have HN := hid (show (10 : UInt8) ∉ l.take (k + 1 - p) by
          rw [show k + 1 - p = (k - p) + 1 by omega, List.take_add_one, List.getElem?_eq_getElem hkl]
          intro hm
          rcases List.mem_append.1 hm with hm | hm
          · exact hn hm
          · exact hne (List.mem_singleton.1 (by simpa using hm)).symm)
        clear hn hlk hne
        go_wp2
        go_roundw
        case rel => exact ⟨k + 1, by omega, by omega, by go_num, HN.out, by first | rfl | trivial⟩
        case measure => simp [intOf]; omega
      · have heq : l[k - p] = 10 := by
          rw [hlk]; have h1 : (s[k].toNat : Int) = 10 := by simpa using hc
          exact UInt8.toNat_inj.1 (by have : (10 : UInt8).toNat = 10 := rfl
                                      omega)
        have HR := hid (show nlO (s.data.toList.drop p) = some (k - p) by rw [← HL.out]; exact nlO_of hkl hn heq)
        clear hn hlk heq
        go_wp2
        go_ret3
        exact lineP_some hpk HR.out
    · have hlI : ¬ (k : Int) < s.size := by omega
      have HR := hid (show nlO (s.data.toList.drop p) = none by rw [← HL.out]; exact nlO_none (by rw [List.take_of_length_le (by omega)] at hn; exact hn))
      clear hn
      go_wp2
      go_ret3
      exact lineP_none HR.out

/-! ### the first line -/
def headV (l : List UInt8) : Value := match nlO l with
  | none => .tuple #[.int .i64 0, .int .i64 0, .int .i64 11]
  | some j => match hdL (l.take j) with
    | none => .tuple #[.int .i64 0, .int .i64 0, .int .i64 9]
    | some n => .tuple #[.int .i64 (n : Int), .int .i64 ((j + 1 : Nat) : Int), .int .i64 0]
theorem headV_none {l : List UInt8} (h : nlO l = none) : headV l = .tuple #[.int .i64 0, .int .i64 0, .int .i64 11] := by rw [headV, h]
theorem headV_bad {l : List UInt8} {j : Nat} (h : nlO l = some j) (h2 : hdL (l.take j) = none) : headV l = .tuple #[.int .i64 0, .int .i64 0, .int .i64 9] := by rw [headV, h]; simp only [h2]
theorem headV_go {l : List UInt8} {j n : Nat} (h : nlO l = some j) (h2 : hdL (l.take j) = some n) : headV l = .tuple #[.int .i64 (n : Int), .int .i64 ((j + 1 : Nat) : Int), .int .i64 0] := by rw [headV, h]; simp only [h2]
def HeadP (s : ByteArray) (w : World) (e : Ending) (w' : World) : Prop := Below w.heap.size w w' ∧ e = .returned (headV s.data.toList)
theorem headP_none {s : ByteArray} {w w' : World} (hb : Below w.heap.size w w') (h : nlO s.data.toList = none) : HeadP s w (.returned (.tuple #[.int .i64 0, .int .i64 0, .int .i64 11])) w' := ⟨hb, by rw [headV_none h]⟩
theorem headP_bad {s : ByteArray} {w w' : World} {j : Nat} (hb : Below w.heap.size w w') (h : nlO s.data.toList = some j) (h2 : hdL (s.data.toList.take j) = none) : HeadP s w (.returned (.tuple #[.int .i64 0, .int .i64 0, .int .i64 9])) w' := ⟨hb, by rw [headV_bad h h2]⟩
theorem headP_go {s : ByteArray} {w w' : World} {j n : Nat} (hb : Below w.heap.size w w') (h : nlO s.data.toList = some j) (h2 : hdL (s.data.toList.take j) = some n) : HeadP s w (.returned (.tuple #[.int .i64 (n : Int), .int .i64 ((j + 1 : Nat) : Int), .int .i64 0])) w' := ⟨hb, by rw [headV_go h h2]⟩
theorem line_none {s : ByteArray} {p : Nat} {w w' : World} {e : Ending} (h : LineP s p w e w') (hn : nlO (s.data.toList.drop p) = none) : w = w' ∧ e = .returned (.tuple #[.string ⟨#[]⟩, .int .i64 0, .bool false]) := ⟨h.1, by have := h.2; rw [hn] at this; exact this⟩
theorem line_some {s : ByteArray} {p j : Nat} {w w' : World} {e : Ending} (h : LineP s p w e w') (hn : nlO (s.data.toList.drop p) = some j) : w = w' ∧ e = .returned (.tuple #[.string (s.extract p (p + j)), .int .i64 ((p + j + 1 : Nat) : Int), .bool true]) := ⟨h.1, by have := h.2; rw [hn] at this; exact this⟩
theorem line_list (s : ByteArray) (p j : Nat) : (s.extract p (p + j)).data.toList = (s.data.toList.drop p).take j := by rw [ext_bs, bs_list]; congr 1; omega
set_option maxHeartbeats 2000000 in
theorem c_l24Head (s : ByteArray) (w : World) (hs : (s.size : Int) ≤ 1048576) :
    Calls Tryd.prog 49 #[.string s] w (HeadP s w) := by
  have cl := fun w' => c_l24Line s 0 w' hs (Nat.zero_le _)
  cases hn : nlO s.data.toList with
  | none =>
    have HN := hid hn
    have HN2 := hid (show nlO (s.data.toList.drop 0) = none from hn)
    clear hn
    go_enter Tryd.func49, Tryd.ntmps49
    go_wp2_with fail
    refine (cl _).mono ?_
    intro e w1 hL
    obtain ⟨rfl, rfl⟩ := line_none hL HN2.out
    clear hL cl
    go_wp2_with fail
    go_ret3
    exact headP_none (by (repeat' (first | (with_reducible exact Below.refl _ _) | (with_reducible refine Below.alloc ?_ ?_ _) | (with_reducible refine Below.drew ?_) | (with_reducible refine below_drewN ?_ _) | (with_reducible refine Below.setCell ?_ ?_ _) | (with_reducible refine below_via ‹_› ?_ ?_) | (with_reducible refine below_grow ?_ ?_ _ _) | omega | (simp; done) | (simp; omega)))) HN.out
  | some j =>
    have HN := hid hn
    have HN2 := hid (show nlO (s.data.toList.drop 0) = some j from hn)
    obtain ⟨hj, -, -⟩ := nlO_some hn
    have hj' : j < s.size := by have := lst_len s 0; rw [List.drop_zero] at this; omega
    have hl0 := line_list s 0 j
    obtain ⟨a0, ha0⟩ : ∃ a0, a0 = s.extract 0 (0 + j) := ⟨_, rfl⟩
    rw [← ha0] at hl0
    have hsz : (a0.size : Int) ≤ 1048576 := by
      rw [ha0, ByteArray.size_extract]; omega
    have HA := hid ha0
    have hhd : hdL (s.data.toList.take j) = hdW (cutB 32 a0.data.toList) := by rw [hdL, hl0]; rfl
    have HD := hid hhd
    have csp := fun w' => c_l01Split 32 a0 w' hsz
    have hcs := cutB_size 32 a0
    have ex : ((0 + j + 1 : Nat) : Int) = ((j + 1 : Nat) : Int) := by rw [Nat.zero_add]
    clear hn ha0 hl0 hhd hj
    go_enter Tryd.func49, Tryd.ntmps49
    go_wp2_with fail
    refine (cl _).mono ?_
    intro e w1 hL
    obtain ⟨rfl, rfl⟩ := line_some hL HN2.out
    rw [← HA.out, ex]
    clear hL cl ex
    go_wp2_with fail
    refine (csp _).mono ?_
    rintro e w1 ⟨v, rfl, hb1, hS1⟩
    have hz1 := hb1.size
    obtain ⟨ps, hps⟩ : ∃ ps, ps = cutB 32 a0.data.toList := ⟨_, rfl⟩
    rw [← hps] at hS1 hcs HD
    clear hps csp
    obtain ⟨ad, cap, rfl⟩ := hS1.1.form
    by_cases h2 : ps.length = 2
    · obtain ⟨a, b, rfl⟩ := two_of h2
      obtain ⟨bb, off, rfl, hlo, hbb, hcl⟩ := cell_str hS1.1 rfl (k := 0) (by simp)
      have d0 := hcl 0 (by simp)
      have d1 := hcl 1 (by simp)
      simp only [List.getElem_cons_zero, List.getElem_cons_succ, Nat.add_zero] at d0 d1
      have hsb : (b.size : Int) ≤ 1048576 := by have := hcs b (by simp); omega
      have hz2' : (((2 : Nat) : Int) != 2) = false := rfl
      clear hS1 hcs hcl h2
      cases ha : (a.toList == arcW)
      · have HR := hid (show hdL (s.data.toList.take j) = none by rw [HD.out]; simp only [hdW, ha]; rfl)
        have ha1 : (a.toList == [97, 114, 99, 104, 105, 118, 101]) = false := ha
        have ha2 : (a.toList != [97, 114, 99, 104, 105, 118, 101]) = true := by simp [bne, ha1]
        clear ha
        go_wp2_with fail
        go_ret3
        exact headP_bad (by (repeat' (first | (with_reducible exact Below.refl _ _) | (with_reducible refine Below.alloc ?_ ?_ _) | (with_reducible refine Below.drew ?_) | (with_reducible refine below_drewN ?_ _) | (with_reducible refine Below.setCell ?_ ?_ _) | (with_reducible refine below_via ‹_› ?_ ?_) | (with_reducible refine below_grow ?_ ?_ _ _) | omega | (simp; done) | (simp; omega)))) HN.out HR.out
      · have HR := hid (show hdL (s.data.toList.take j) = hdN (numB b.data.toList) (numV b.data.toList) by rw [HD.out]; simp only [hdW, ha]; rfl)
        have ha1 : (a.toList == [97, 114, 99, 104, 105, 118, 101]) = true := ha
        have ha2 : (a.toList != [97, 114, 99, 104, 105, 118, 101]) = false := by simp [bne, ha1]
        have cn := fun w' => c_l01Number b w' hsb
        obtain ⟨n, hnv⟩ : ∃ n, n = numV b.data.toList := ⟨_, rfl⟩
        obtain ⟨t, ht⟩ : ∃ t, t = numB b.data.toList := ⟨_, rfl⟩
        rw [← hnv, ← ht] at HR cn
        clear ha hnv ht
        cases t
        · have HR2 := hid (show hdL (s.data.toList.take j) = none by rw [HR.out]; rfl)
          go_wp2_with (go_at_call 83; refine (cn _).mono ?_; rintro e w' ⟨rfl, rfl⟩)
          go_ret3
          exact headP_bad (by (repeat' (first | (with_reducible exact Below.refl _ _) | (with_reducible refine Below.alloc ?_ ?_ _) | (with_reducible refine Below.drew ?_) | (with_reducible refine below_drewN ?_ _) | (with_reducible refine Below.setCell ?_ ?_ _) | (with_reducible refine below_via ‹_› ?_ ?_) | (with_reducible refine below_grow ?_ ?_ _ _) | omega | (simp; done) | (simp; omega)))) HN.out HR2.out
        · cases hi : inB n 0 40
          · have HR2 := hid (show hdL (s.data.toList.take j) = none by rw [HR.out, hdN, hi]; rfl)
            go_wp2_with (first | (go_at_call 83; refine (cn _).mono ?_; rintro e w' ⟨rfl, rfl⟩) | (go_at_call 64; refine (c_l00In _ _ _ _).mono ?_; rintro e w' ⟨rfl, rfl⟩))
            go_ret3
            exact headP_bad (by (repeat' (first | (with_reducible exact Below.refl _ _) | (with_reducible refine Below.alloc ?_ ?_ _) | (with_reducible refine Below.drew ?_) | (with_reducible refine below_drewN ?_ _) | (with_reducible refine Below.setCell ?_ ?_ _) | (with_reducible refine below_via ‹_› ?_ ?_) | (with_reducible refine below_grow ?_ ?_ _ _) | omega | (simp; done) | (simp; omega)))) HN.out HR2.out
          · have hnb := inB_true hi
            obtain ⟨m, rfl⟩ : ∃ m : Nat, n = m := ⟨n.toNat, by omega⟩
            have HR2 := hid (show hdL (s.data.toList.take j) = some m by rw [HR.out, hdN, hi]; simp)
            go_wp2_with (first | (go_at_call 83; refine (cn _).mono ?_; rintro e w' ⟨rfl, rfl⟩) | (go_at_call 64; refine (c_l00In _ _ _ _).mono ?_; rintro e w' ⟨rfl, rfl⟩))
            go_ret3
            exact headP_go (by (repeat' (first | (with_reducible exact Below.refl _ _) | (with_reducible refine Below.alloc ?_ ?_ _) | (with_reducible refine Below.drew ?_) | (with_reducible refine below_drewN ?_ _) | (with_reducible refine Below.setCell ?_ ?_ _) | (with_reducible refine below_via ‹_› ?_ ?_) | (with_reducible refine below_grow ?_ ?_ _ _) | omega | (simp; done) | (simp; omega)))) HN.out HR2.out
    · have hz2' : ((ps.length : Int) != 2) = true := by simp; omega
      have HR := hid (HD.out.trans (hdW_len h2))
      clear h2 hS1 hcs
      go_wp2_with fail
      go_ret3
      exact headP_bad (by (repeat' (first | (with_reducible exact Below.refl _ _) | (with_reducible refine Below.alloc ?_ ?_ _) | (with_reducible refine Below.drew ?_) | (with_reducible refine below_drewN ?_ _) | (with_reducible refine Below.setCell ?_ ?_ _) | (with_reducible refine below_via ‹_› ?_ ?_) | (with_reducible refine below_grow ?_ ?_ _ _) | omega | (simp; done) | (simp; omega)))) HN.out HR.out
end Go.Proofs.YtocpgnpdnoidnaaDoor
