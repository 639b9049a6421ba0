/- The bytes of items, both sides. Printed by wip/mksave.py. -/
import Derived.Test.YtabbhlehbhadiaaDoorCrc
import Derived.Test.YtabbhlehbhadiaaDoorWorkT
import Derived.Test.YtabbhlehbhadiaaDoorItem
namespace Go.Proofs.YtabbhlehbhadiaaDoor
open Go.RowKit Go.Sort
set_option linter.unusedVariables false
set_option maxRecDepth 100000

def itS (d : ItemD) : ByteArray := d.fKey ++ (⟨#[32]⟩ : ByteArray) ++ decS (d.fText.size : Int) ++ (⟨#[32]⟩ : ByteArray) ++ decS (chkV d.fKey d.fText) ++ (⟨#[10]⟩ : ByteArray) ++ d.fText ++ (⟨#[10]⟩ : ByteArray)
def headS (n : Nat) : ByteArray := (⟨#[97, 114, 99, 104, 105, 118, 101, 32]⟩ : ByteArray) ++ decS (n : Int) ++ (⟨#[10]⟩ : ByteArray)
def savF (h : ByteArray) (xs : List ItemD) : ByteArray := xs.foldl (fun o d => o ++ itS d) h
theorem savF_take {h : ByteArray} {xs : List ItemD} {k : Nat} (hk : k < xs.length) : savF h (xs.take (k + 1)) = savF h (xs.take k) ++ itS xs[k] := by
  have e : xs.take (k + 1) = xs.take k ++ [xs[k]] := by simp
  rw [e, savF, List.foldl_append]; rfl
def saveS (xs : List ItemD) : ByteArray := savF (headS xs.length) xs
def saveR (xs : List ItemD) : ByteArray := if itemsB xs then saveS xs else ⟨#[]⟩
def saveC (xs : List ItemD) : Int := if itemsB xs then 0 else 1
theorem headS_size {n : Nat} (h : n ≤ 1000) : (headS n).size ≤ 40 := by
  have h1 := decS_size (n := (n : Int)) (by unfold I64; omega)
  rw [headS, ByteArray.size_append, ByteArray.size_append]
  have e1 : (⟨#[97, 114, 99, 104, 105, 118, 101, 32]⟩ : ByteArray).size = 8 := rfl
  have e2 : (⟨#[10]⟩ : ByteArray).size = 1 := rfl
  omega
theorem itS_size {d : ItemD} (hk : d.fKey.size ≤ 1000) (ht : d.fText.size ≤ 1000) : (itS d).size ≤ 2046 := by
  have h1 := decS_size (n := (d.fText.size : Int)) (by unfold I64; omega)
  have h2 := decS_size (chkV_i64 d.fKey d.fText)
  simp only [itS, ByteArray.size_append]
  have e1 : (⟨#[32]⟩ : ByteArray).size = 1 := rfl
  have e2 : (⟨#[10]⟩ : ByteArray).size = 1 := rfl
  omega
set_option maxHeartbeats 4000000 in
theorem c_l24Save (v : Value) (xs : List ItemD) (w : World) (h : SlA w 0 2 encItem v xs) (hsz : ∀ x ∈ xs, x.fKey.size ≤ 1000 ∧ x.fText.size ≤ 1000) (hl : xs.length ≤ 1000) :
    Calls Tryd.prog 16 #[v] w fun e w' => e = .returned (.string (saveS xs)) ∧ Below w.heap.size w w' := by
  obtain ⟨ad, cap, b, off, rfl, hm, had, hx⟩ := h.uni
  have hdn := decS_size (n := (xs.length : Int)) (by unfold I64; omega)
  have hh := headS_size hl
  have HH := hid (show headS xs.length = (⟨#[97, 114, 99, 104, 105, 118, 101, 32]⟩ : ByteArray) ++ decS (xs.length : Int) ++ (⟨#[10]⟩ : ByteArray) from rfl)
  go_enter Tryd.func16, Tryd.ntmps16
  go_wp2_with (first | (go_at_call 20; refine (c_l01Dec _ _ (by first | assumption | (unfold I64; omega))).mono ?_; rintro e w1 ⟨rfl, hb⟩; obtain ⟨hc, hf⟩ := bcell hb; have hz := hb.size; (try simp at hz); (try have hz0 : ∀ b, b < w.heap.size → b < w1.heap.size := fun b h => by omega); (try have hz1 : w.heap.size < w1.heap.size := by omega); (try have hz2 : w.heap.size + 1 < w1.heap.size := by omega); (try have hz3 : w.heap.size + 2 < w1.heap.size := by omega)))
  go_loopw [3, 4] (fun t i wr => ∃ (k : Nat) (s : ByteArray), k ≤ xs.length ∧ i = .int .i64 k ∧ t = .string s ∧ s = savF (headS xs.length) (xs.take k) ∧ s.size ≤ 40 + 2046 * k ∧ Below w.heap.size w wr) (fun _ i _ => xs.length - (intOf i).toNat)
  case atStart => exact ⟨0, headS xs.length, Nat.zero_le _, rfl, by rw [HH.out], rfl, by omega, by (repeat' (first | (with_reducible exact Below.refl _ _) | (with_reducible refine Below.alloc ?_ ?_ _) | (with_reducible refine Below.drew ?_) | (with_reducible refine below_drewN ?_ _) | (with_reducible refine Below.setCell ?_ ?_ _) | (with_reducible refine below_via ‹_› ?_ ?_) | (with_reducible refine below_grow ?_ ?_ _ _) | omega | (simp; done) | (simp; omega)))⟩
  case round =>
    obtain ⟨k, s, hk, rfl, rfl, hs, hsz2, hB⟩ := hrel
    have hzr := hB.size
    by_cases hlt : k < xs.length
    · have hlI : (k : Int) < xs.length := by omega
      obtain ⟨rfl, hbb, -, hcc, hmc⟩ := had (by omega)
      have hbr : b < wr.heap.size := by omega
      have g0 := (hB.cell (p := ⟨b, off + k * 2 + 0, none⟩) hbb).trans (hx k hlt 0 (by omega))
      have g1 := (hB.cell (p := ⟨b, off + k * 2 + 1, none⟩) hbb).trans (hx k hlt 1 (by omega))
      simp only [encItem, List.getD_cons_zero, List.getD_cons_succ, Nat.add_zero] at g0 g1
      obtain ⟨hk1, ht1⟩ := hsz _ (List.getElem_mem hlt)
      have HT := hid (savF_take (h := headS xs.length) hlt)
      have hS := itS_size hk1 ht1
      obtain ⟨y, hy⟩ : ∃ y, y = xs[k].fKey := ⟨_, rfl⟩
      obtain ⟨t, ht⟩ : ∃ t, t = xs[k].fText := ⟨_, rfl⟩
      obtain ⟨c, hc⟩ : ∃ c, c = chkV y t := ⟨_, rfl⟩
      have hcI : I64 c := by rw [hc]; exact chkV_i64 _ _
      have HD := hid (show itS xs[k] = y ++ (⟨#[32]⟩ : ByteArray) ++ decS (t.size : Int) ++ (⟨#[32]⟩ : ByteArray) ++ decS c ++ (⟨#[10]⟩ : ByteArray) ++ t ++ (⟨#[10]⟩ : ByteArray) by rw [itS, ← hy, ← ht, ← hc])
      rw [← hy] at g0 hk1
      rw [← ht] at g1 ht1
      have htI : I64 (t.size : Int) := by unfold I64; omega
      have z1 := decS_size htI
      have z2 := decS_size hcI
      have q0 : (wr.alloc (.cells #[.string y, .string t] 34)).cell? ⟨wr.heap.size, 0, none⟩ = some (.string y) := by simp
      have q1 : (wr.alloc (.cells #[.string y, .string t] 34)).cell? ⟨wr.heap.size, 1, none⟩ = some (.string t) := by simp
      have G0 := cellr q0
      have G1 := cellr q1
      have HZ := hid (show s ++ itS xs[k] = savF (headS xs.length) (xs.take (k + 1)) ∧ (s ++ itS xs[k]).size ≤ 40 + 2046 * (k + 1) from ⟨by rw [HT.out, ← hs], by rw [ByteArray.size_append]; omega⟩)
      rw [HD.out] at HZ
      obtain ⟨r1, r1'⟩ := big_no (n := y.size) (by omega)
      obtain ⟨r2, r2'⟩ := big_no (n := y.size + 1) (by omega)
      obtain ⟨r3, r3'⟩ := big_no (n := y.size + 1 + (decS (t.size : Int)).size) (by omega)
      obtain ⟨r4, r4'⟩ := big_no (n := y.size + 1 + (decS (t.size : Int)).size + 1) (by omega)
      obtain ⟨r5, r5'⟩ := big_no (n := y.size + 1 + (decS (t.size : Int)).size + 1 + (decS c).size) (by omega)
      obtain ⟨r6, r6'⟩ := big_no (n := y.size + 1 + (decS (t.size : Int)).size + 1 + (decS c).size + 1) (by omega)
      obtain ⟨r7, r7'⟩ := big_no (n := y.size + 1 + (decS (t.size : Int)).size + 1 + (decS c).size + 1 + t.size) (by omega)
      obtain ⟨r8, r8'⟩ := big_no (n := y.size + 1 + (decS (t.size : Int)).size + 1 + (decS c).size + 1 + t.size + 1) (by omega)
      obtain ⟨r9, r9'⟩ := big_no (n := s.size + (y.size + 1 + (decS (t.size : Int)).size + 1 + (decS c).size + 1 + t.size + 1)) (by omega)
      have cc : ∀ w', w'.cell? ⟨wr.heap.size, 0, none⟩ = some (.string y) → w'.cell? ⟨wr.heap.size, 1, none⟩ = some (.string t) → Calls Tryd.prog 28 #[.pointer (some ⟨wr.heap.size, 0, none⟩)] w' fun e w'' => e = .returned (.int .i64 c) ∧ Below w'.heap.size w' w'' := fun w' h0 h1 => by rw [hc]; exact c_l24Check _ 0 y t w' (block_lt_of_cell h0) hk1 ht1 h0 h1
      clear hs hx hy ht hc had hsz q0 q1 hS
      go_wp2
      (refine wp_region_quiet_below (by kernel_rfl) (by kernel_rfl) ?_; (repeat (first | go_big_quiet_step ((first | (go_at_call 20; exact regrown_of (c_l01Dec _ _ (by first | assumption | (unfold I64; omega)))) | (go_at_call 28; exact regrown_of (cc _ (G0 _ _) (G1 _ _))))) | quiet_step ((first | (go_at_call 20; exact regrown_of (c_l01Dec _ _ (by first | assumption | (unfold I64; omega)))) | (go_at_call 28; exact regrown_of (cc _ (G0 _ _) (G1 _ _))))))); refine wpQuiet_nil ?_; intro w1 hw'; have hb := below_of_regrown hw'; clear hw'; obtain ⟨hc, hf⟩ := bcell hb; have hz := hb.size; (try simp at hz); (try have hz0 : ∀ b, b < w.heap.size → b < w1.heap.size := fun b h => by omega); (try have hz1 : w.heap.size < w1.heap.size := by omega); (try have hz2 : w.heap.size + 1 < w1.heap.size := by omega); (try have hz3 : w.heap.size + 2 < w1.heap.size := by omega))
      go_wp2
      go_roundw
      case rel => exact ⟨k + 1, _, by omega, by go_num, rfl, HZ.out.1, HZ.out.2, by (repeat' (first | (with_reducible exact Below.refl _ _) | (with_reducible refine Below.alloc ?_ ?_ _) | (with_reducible refine Below.drew ?_) | (with_reducible refine below_drewN ?_ _) | (with_reducible refine Below.setCell ?_ ?_ _) | (with_reducible refine below_via ‹_› ?_ ?_) | (with_reducible refine below_grow ?_ ?_ _ _) | omega | (simp; done) | (simp; omega)))⟩
      case measure => simp [intOf]; omega
    · have e : k = xs.length := by omega
      have HR := hid (show s = saveS xs by rw [hs, e, List.take_length]; rfl)
      have hlI : ¬ (k : Int) < xs.length := by omega
      clear hs e
      go_wp2
      go_ret
      rw [HR.out]
      exact ⟨rfl, by (repeat' (first | (with_reducible exact Below.refl _ _) | (with_reducible refine Below.alloc ?_ ?_ _) | (with_reducible refine Below.drew ?_) | (with_reducible refine below_drewN ?_ _) | (with_reducible refine Below.setCell ?_ ?_ _) | (with_reducible refine below_via ‹_› ?_ ?_) | (with_reducible refine below_grow ?_ ?_ _ _) | omega | (simp; done) | (simp; omega)))⟩
theorem items_in {xs : List ItemD} (h : itemsB xs = true) : xs.length ≤ 1000 ∧ ∀ x ∈ xs, x.fKey.size ≤ 1000 ∧ x.fText.size ≤ 1000 := by
  simp only [itemsB, risesB, Bool.and_eq_true, decide_eq_true_eq] at h
  refine ⟨by omega, fun x hx => ?_⟩
  obtain ⟨i, hi, rfl⟩ := List.mem_iff_getElem.1 hx
  have h1 := of_allB h.1 i hi
  simp only [stepB, Bool.and_eq_true, oneAt_get _ _ _ hi, itemD, itemB, nameB, decide_eq_true_eq] at h1
  exact ⟨by omega, by omega⟩
set_option maxHeartbeats 4000000 in
theorem c_spec_SaveItems (v : Value) (xs : List ItemD) (w : World) (h : SlA w 0 2 encItem v xs) (hok : ∀ x ∈ xs, okItem x) :
    Calls Tryd.prog 6 #[v] w fun e w' => e = .returned (.tuple #[.string (saveR xs), .int .i64 (saveC xs)]) ∧ Below w.heap.size w w' := by
  cases hq : itemsB xs
  · have HR := hid (show saveR xs = ⟨#[]⟩ ∧ saveC xs = 1 by rw [saveR, saveC, hq]; exact ⟨rfl, rfl⟩)
    go_enter Tryd.func6, Tryd.ntmps6
    go_wp2_with (first | (go_at_call 15; refine (c_l24Ok _ _ _ (by first | (with_reducible assumption) | (with_reducible apply SlO.at; (with_reducible assumption); (repeat' (first | (with_reducible exact Below.refl _ _) | (with_reducible refine Below.alloc ?_ ?_ _) | (with_reducible refine Below.drew ?_) | (with_reducible refine below_drewN ?_ _) | (with_reducible refine Below.setCell ?_ ?_ _) | (with_reducible refine below_via ‹_› ?_ ?_) | (with_reducible refine below_grow ?_ ?_ _ _) | omega | (simp; done) | (simp; omega))); done) | (with_reducible apply SlA.at; (with_reducible assumption); (repeat' (first | (with_reducible exact Below.refl _ _) | (with_reducible refine Below.alloc ?_ ?_ _) | (with_reducible refine Below.drew ?_) | (with_reducible refine below_drewN ?_ _) | (with_reducible refine Below.setCell ?_ ?_ _) | (with_reducible refine below_via ‹_› ?_ ?_) | (with_reducible refine below_grow ?_ ?_ _ _) | omega | (simp; done) | (simp; omega))); done)) (by assumption)).mono ?_; rintro e w1 ⟨rfl, hb⟩; obtain ⟨hc, hf⟩ := bcell hb; have hz := hb.size; (try simp at hz); (try have hz0 : ∀ b, b < w.heap.size → b < w1.heap.size := fun b h => by omega); (try have hz1 : w.heap.size < w1.heap.size := by omega); (try have hz2 : w.heap.size + 1 < w1.heap.size := by omega); (try have hz3 : w.heap.size + 2 < w1.heap.size := by omega)))
    go_ret2
    rw [HR.out.1, HR.out.2]
    exact ⟨rfl, by (repeat' (first | (with_reducible exact Below.refl _ _) | (with_reducible refine Below.alloc ?_ ?_ _) | (with_reducible refine Below.drew ?_) | (with_reducible refine below_drewN ?_ _) | (with_reducible refine Below.setCell ?_ ?_ _) | (with_reducible refine below_via ‹_› ?_ ?_) | (with_reducible refine below_grow ?_ ?_ _ _) | omega | (simp; done) | (simp; omega)))⟩
  · have HR := hid (show saveR xs = saveS xs ∧ saveC xs = 0 by rw [saveR, saveC, hq]; exact ⟨rfl, rfl⟩)
    obtain ⟨h40, hin⟩ := items_in hq
    go_enter Tryd.func6, Tryd.ntmps6
    go_wp2_with (first | (go_at_call 15; refine (c_l24Ok _ _ _ (by first | (with_reducible assumption) | (with_reducible apply SlO.at; (with_reducible assumption); (repeat' (first | (with_reducible exact Below.refl _ _) | (with_reducible refine Below.alloc ?_ ?_ _) | (with_reducible refine Below.drew ?_) | (with_reducible refine below_drewN ?_ _) | (with_reducible refine Below.setCell ?_ ?_ _) | (with_reducible refine below_via ‹_› ?_ ?_) | (with_reducible refine below_grow ?_ ?_ _ _) | omega | (simp; done) | (simp; omega))); done) | (with_reducible apply SlA.at; (with_reducible assumption); (repeat' (first | (with_reducible exact Below.refl _ _) | (with_reducible refine Below.alloc ?_ ?_ _) | (with_reducible refine Below.drew ?_) | (with_reducible refine below_drewN ?_ _) | (with_reducible refine Below.setCell ?_ ?_ _) | (with_reducible refine below_via ‹_› ?_ ?_) | (with_reducible refine below_grow ?_ ?_ _ _) | omega | (simp; done) | (simp; omega))); done)) (by assumption)).mono ?_; rintro e w1 ⟨rfl, hb⟩; obtain ⟨hc, hf⟩ := bcell hb; have hz := hb.size; (try simp at hz); (try have hz0 : ∀ b, b < w.heap.size → b < w1.heap.size := fun b h => by omega); (try have hz1 : w.heap.size < w1.heap.size := by omega); (try have hz2 : w.heap.size + 1 < w1.heap.size := by omega); (try have hz3 : w.heap.size + 2 < w1.heap.size := by omega)) | (go_at_call 16; refine (c_l24Save _ xs _ (by first | (with_reducible assumption) | (with_reducible apply SlO.at; (with_reducible assumption); (repeat' (first | (with_reducible exact Below.refl _ _) | (with_reducible refine Below.alloc ?_ ?_ _) | (with_reducible refine Below.drew ?_) | (with_reducible refine below_drewN ?_ _) | (with_reducible refine Below.setCell ?_ ?_ _) | (with_reducible refine below_via ‹_› ?_ ?_) | (with_reducible refine below_grow ?_ ?_ _ _) | omega | (simp; done) | (simp; omega))); done) | (with_reducible apply SlA.at; (with_reducible assumption); (repeat' (first | (with_reducible exact Below.refl _ _) | (with_reducible refine Below.alloc ?_ ?_ _) | (with_reducible refine Below.drew ?_) | (with_reducible refine below_drewN ?_ _) | (with_reducible refine Below.setCell ?_ ?_ _) | (with_reducible refine below_via ‹_› ?_ ?_) | (with_reducible refine below_grow ?_ ?_ _ _) | omega | (simp; done) | (simp; omega))); done)) hin (by omega)).mono ?_; rintro e w2 ⟨rfl, hb2⟩; have hz3 := hb2.size))
    go_ret2
    rw [HR.out.1, HR.out.2]
    exact ⟨rfl, by (repeat' (first | (with_reducible exact Below.refl _ _) | (with_reducible refine Below.alloc ?_ ?_ _) | (with_reducible refine Below.drew ?_) | (with_reducible refine below_drewN ?_ _) | (with_reducible refine Below.setCell ?_ ?_ _) | (with_reducible refine below_via ‹_› ?_ ?_) | (with_reducible refine below_grow ?_ ?_ _ _) | omega | (simp; done) | (simp; omega)))⟩
end Go.Proofs.YtabbhlehbhadiaaDoor
