/- The text of a work, both sides. -/
import Derived.Test.YtfnfkpmkppkleaaDoorPointT
import Derived.Test.YtfnfkpmkppkleaaDoorShipT
import Derived.Deep.RegionHeld3
namespace Go.Proofs.YtfnfkpmkppkleaaDoor
open Go.RowKit Go.Sort
set_option linter.unusedVariables false
set_option maxRecDepth 100000

def workT (s : ByteArray) (x y a b c d : Int) : List UInt8 := s.data.toList ++ 32 :: (pointL x y ++ 32 :: listL [a, b, c, d])
def workR (s : ByteArray) (x y a b c d : Int) : ByteArray := if workB s x y a b c d then bs (workT s x y a b c d) else ⟨#[]⟩
theorem work_cat (s : ByteArray) (p l : List UInt8) : s ++ (⟨#[32]⟩ : ByteArray) ++ bs p ++ (⟨#[32]⟩ : ByteArray) ++ bs l = bs (s.data.toList ++ 32 :: (p ++ 32 :: l)) := by
  have e : (⟨#[32]⟩ : ByteArray) = bs [32] := rfl
  rw [← bs_self s, e, bs_app, bs_app, bs_app, bs_app]; simp [bs]
theorem big_no {n : Nat} (h : n ≤ 9000000000000000000) : ¬ (9223372036854775807 < n) ∧ ¬ (9223372036854775807 ≤ n) := by omega
set_option maxHeartbeats 4000000 in
theorem c_l25WorkText (bk off : Nat) (s : ByteArray) (x y a b c d : Int) (w : World) (hs : (s.size : Int) ≤ 1048576) (hb : bk < w.heap.size) (hx : I64 x) (hy : I64 y) (ha : I64 a) (hbb : I64 b) (hc : I64 c) (hd : I64 d) (h0 : w.cell? ⟨bk, off, none⟩ = some (.string s)) (h1 : w.cell? ⟨bk, off+1, none⟩ = some (.int .i64 x))
    (h2 : w.cell? ⟨bk, off+2, none⟩ = some (.int .i64 y)) (h3 : w.cell? ⟨bk, off+3, none⟩ = some (.int .i64 a)) (h4 : w.cell? ⟨bk, off+4, none⟩ = some (.int .i64 b)) (h5 : w.cell? ⟨bk, off+5, none⟩ = some (.int .i64 c)) (h6 : w.cell? ⟨bk, off+6, none⟩ = some (.int .i64 d)) :
    Calls Tryd.prog 68 #[.pointer (some ⟨bk, off, none⟩)] w fun e w' => e = .returned (.string (bs (workT s x y a b c d))) ∧ Below w.heap.size w w' := by
  have hok : ∀ x ∈ [a, b, c, d], I64 x := by simp [ha, hbb, hc, hd]
  have hz := listL_size hok
  have hsz : (bs (listL [a, b, c, d])).size ≤ 89 := by rw [bs_size]; simpa using hz
  have hpz := pointL_size hx hy
  have HC := hid (work_cat s (pointL x y) (listL [a, b, c, d]))
  have k0 : ∀ w', Since w w' → w'.cell? ⟨bk, off, none⟩ = some (.string s) := fun w' h => below_cell h.out hb h0
  have k1 : ∀ w', Since w w' → w'.cell? ⟨bk, off+1, none⟩ = some (.int .i64 x) := fun w' h => below_cell h.out hb h1
  have k2 : ∀ w', Since w w' → w'.cell? ⟨bk, off+2, none⟩ = some (.int .i64 y) := fun w' h => below_cell h.out hb h2
  have k2' : ∀ w', Since w w' → w'.cell? ⟨bk, off+1+1, none⟩ = some (.int .i64 y) := k2
  have k3 : ∀ w', Since w w' → w'.cell? ⟨bk, off+3, none⟩ = some (.int .i64 a) := fun w' h => below_cell h.out hb h3
  have k4 : ∀ w', Since w w' → w'.cell? ⟨bk, off+4, none⟩ = some (.int .i64 b) := fun w' h => below_cell h.out hb h4
  have k5 : ∀ w', Since w w' → w'.cell? ⟨bk, off+5, none⟩ = some (.int .i64 c) := fun w' h => below_cell h.out hb h5
  have k6 : ∀ w', Since w w' → w'.cell? ⟨bk, off+6, none⟩ = some (.int .i64 d) := fun w' h => below_cell h.out hb h6
  obtain ⟨l, hl⟩ : ∃ l, l = listL [a, b, c, d] := ⟨_, rfl⟩
  obtain ⟨p, hpl⟩ : ∃ p, p = pointL x y := ⟨_, rfl⟩
  rw [← hl] at hsz HC
  rw [← hpl] at hpz HC
  have cl : ∀ v w', SlA w' 0 1 encI v [a, b, c, d] → Calls Tryd.prog 122 #[v] w' fun e w'' => e = .returned (.string (bs l)) ∧ Below w'.heap.size w' w'' := fun v w' h => by rw [hl]; exact c_l01List v [a, b, c, d] w' h hok (by simp)
  have cp : ∀ w', Calls Tryd.prog 126 #[.agg #[.int .i64 x, .int .i64 y]] w' fun e w'' => e = .returned (.string (bs p)) ∧ Below w'.heap.size w' w'' := fun w' => by rw [hpl]; exact c_l02Text x y w' hx hy
  have HL := hid (And.intro hl hpl)
  obtain ⟨r1, r1'⟩ := big_no (n := s.size + 1) (by omega)
  obtain ⟨r2, r2'⟩ := big_no (n := s.size + 1 + (bs p).size) (by omega)
  obtain ⟨r3, r3'⟩ := big_no (n := s.size + 1 + (bs p).size + 1) (by omega)
  obtain ⟨r4, r4'⟩ := big_no (n := s.size + 1 + (bs p).size + 1 + (bs l).size) (by omega)
  obtain ⟨r5, r5'⟩ := big_no (n := s.size) (by omega)
  clear hl hpl hz hok
  go_enter Tryd.func68, Tryd.ntmps68
  go_wp2_with fail
  go_region_held3 (fun w' => Since w w') ((refine since_of ?_; (repeat' (first | (with_reducible exact Below.refl _ _) | (with_reducible refine Below.alloc ?_ ?_ _) | (with_reducible refine Below.drew ?_) | (with_reducible refine below_drewN ?_ _) | (with_reducible refine Below.setCell ?_ ?_ _) | (with_reducible refine below_via ‹_› ?_ ?_) | (with_reducible refine below_grow ?_ ?_ _ _) | omega | (simp; done) | (simp; omega))))) (first
    | (go_at_call 126; refine (cp _).mono ?_; rintro e w1 ⟨rfl, hb1⟩; have hz1 := hb1.size; (try simp at hz1))
    | (go_at_call 122; refine (cl _ _ (by first | exact sl_fresh (enc := encI) (fun _ => rfl) [a, b, c, d] rfl rfl rfl rfl (by simp) | (refine SlA.drew ?_; exact sl_fresh (enc := encI) (fun _ => rfl) [a, b, c, d] rfl rfl rfl rfl (by simp)) | (refine SlA.drew (SlA.drew ?_); exact sl_fresh (enc := encI) (fun _ => rfl) [a, b, c, d] rfl rfl rfl rfl (by simp)) | (refine SlA.at ?_ hb1; exact sl_fresh (enc := encI) (fun _ => rfl) [a, b, c, d] rfl rfl rfl rfl (by simp)) | (refine SlA.at (SlA.drew ?_) hb1; exact sl_fresh (enc := encI) (fun _ => rfl) [a, b, c, d] rfl rfl rfl rfl (by simp)) | (refine SlA.drew (SlA.at ?_ hb1); exact sl_fresh (enc := encI) (fun _ => rfl) [a, b, c, d] rfl rfl rfl rfl (by simp)) | (refine SlA.drew (SlA.at (SlA.drew ?_) hb1); exact sl_fresh (enc := encI) (fun _ => rfl) [a, b, c, d] rfl rfl rfl rfl (by simp)) | fail)).mono ?_; rintro e w2 ⟨rfl, hb2⟩; have hz2 := hb2.size; (try simp at hz2)))
  all_goals
    go_wp2_with fail
    go_ret
    rw [workT, ← HL.out.1, ← HL.out.2, ← HC.out]
    exact ⟨rfl, by (repeat' (first | (with_reducible exact Below.refl _ _) | (with_reducible refine Below.alloc ?_ ?_ _) | (with_reducible refine Below.drew ?_) | (with_reducible refine below_drewN ?_ _) | (with_reducible refine Below.setCell ?_ ?_ _) | (with_reducible refine below_via ‹_› ?_ ?_) | (with_reducible refine below_grow ?_ ?_ _ _) | omega | (simp; done) | (simp; omega)))⟩
theorem c_spec_WorkText (s : ByteArray) (x y a b c d : Int) (w : World) (hs : (s.size : Int) ≤ 1048576) (hx : I64 x) (hy : I64 y) (ha : I64 a) (hbb : I64 b) (hc : I64 c) (hd : I64 d) :
    Calls Tryd.prog 20 #[.agg #[.string s, .int .i64 x, .int .i64 y, .int .i64 a, .int .i64 b, .int .i64 c, .int .i64 d]] w fun e w' => e = .returned (.string (workR s x y a b c d)) ∧ Below w.heap.size w w' := by
  have hs' : s.size ≤ maxLen := by unfold maxLen; omega
  cases hq : workB s x y a b c d
  · have HR := hid (show workR s x y a b c d = ⟨#[]⟩ by rw [workR, hq]; rfl)
    go_enter Tryd.func20, Tryd.ntmps20
    go_wp2_with (first | (go_at_call 67; refine (c_l25Work _ _ s x y a b c d _ (by simp) hs' (by simp) (by simp) (by simp) (by simp) (by simp) (by simp) (by simp)).mono ?_; rintro e w1 ⟨rfl, hb⟩; obtain ⟨hc, hf⟩ := bcell hb; have hz := hb.size; (try simp at hz); (try have hz0 : ∀ b, b < w.heap.size → b < w1.heap.size := fun b h => by omega); (try have hz1 : w.heap.size < w1.heap.size := by omega); (try have hz2 : w.heap.size + 1 < w1.heap.size := by omega); (try have hz3 : w.heap.size + 2 < w1.heap.size := by omega)))
    go_ret
    rw [HR.out]
    exact ⟨rfl, by (repeat' (first | (with_reducible exact Below.refl _ _) | (with_reducible refine Below.alloc ?_ ?_ _) | (with_reducible refine Below.drew ?_) | (with_reducible refine below_drewN ?_ _) | (with_reducible refine Below.setCell ?_ ?_ _) | (with_reducible refine below_via ‹_› ?_ ?_) | (with_reducible refine below_grow ?_ ?_ _ _) | omega | (simp; done) | (simp; omega)))⟩
  · have HR := hid (show workR s x y a b c d = bs (workT s x y a b c d) by rw [workR, hq]; rfl)
    go_enter Tryd.func20, Tryd.ntmps20
    go_wp2_with (first | (go_at_call 67; refine (c_l25Work _ _ s x y a b c d _ (by simp) hs' (by simp) (by simp) (by simp) (by simp) (by simp) (by simp) (by simp)).mono ?_; rintro e w1 ⟨rfl, hb⟩; obtain ⟨hc, hf⟩ := bcell hb; have hz := hb.size; (try simp at hz); (try have hz0 : ∀ b, b < w.heap.size → b < w1.heap.size := fun b h => by omega); (try have hz1 : w.heap.size < w1.heap.size := by omega); (try have hz2 : w.heap.size + 1 < w1.heap.size := by omega); (try have hz3 : w.heap.size + 2 < w1.heap.size := by omega)))
    have q : ∀ j, j < 7 → w1.cell? ⟨w.heap.size, j, none⟩ = (w.alloc (.cells #[.string s, .int .i64 x, .int .i64 y, .int .i64 a, .int .i64 b, .int .i64 c, .int .i64 d] 37)).cell? ⟨w.heap.size, j, none⟩ := fun j hj => hc _ _ (by simp)
    have hz2 : w.heap.size < w1.heap.size := hz1
    go_wp2_with (first | (go_at_call 68; refine (c_l25WorkText _ 0 s x y a b c d _ hs hz2 hx hy ha hbb (by assumption) hd ((q 0 (by omega)).trans (by simp)) ((q 1 (by omega)).trans (by simp)) ((q 2 (by omega)).trans (by simp)) ((q 3 (by omega)).trans (by simp)) ((q 4 (by omega)).trans (by simp)) ((q 5 (by omega)).trans (by simp)) ((q 6 (by omega)).trans (by simp))).mono ?_; rintro e w2 ⟨rfl, hb2⟩; have hz3 := hb2.size))
    go_ret
    rw [HR.out]
    exact ⟨rfl, by (repeat' (first | (with_reducible exact Below.refl _ _) | (with_reducible refine Below.alloc ?_ ?_ _) | (with_reducible refine Below.drew ?_) | (with_reducible refine below_drewN ?_ _) | (with_reducible refine Below.setCell ?_ ?_ _) | (with_reducible refine below_via ‹_› ?_ ?_) | (with_reducible refine below_grow ?_ ?_ _ _) | omega | (simp; done) | (simp; omega)))⟩
theorem work_fits {s : ByteArray} {x y a b c d : Int} (h : workB s x y a b c d = true) : fitsB [a, b, c, d] = true ∧ pointB x y = true ∧ (s.size : Int) ≤ 10 := by
  simp only [workB, Bool.and_eq_true] at h
  obtain ⟨⟨⟨⟨⟨h0, hp⟩, h1⟩, h2⟩, h3⟩, h4⟩ := h
  have e1 := inB_true h1
  have e2 := inB_true h2
  have e3 := inB_true h3
  have e4 := inB_true h4
  have e0 : (s.size : Int) ≤ 10 := by simp only [nameB, Bool.and_eq_true, decide_eq_true_eq] at h0; exact h0.1.1.2
  refine ⟨?_, hp, e0⟩
  simp [fitsB, inB]; omega
set_option maxHeartbeats 4000000 in
theorem c_impl_WorkText (s : ByteArray) (x y a b c d : Int) (w : World) (hs : (s.size : Int) ≤ 1048576) (hx : I64 x) (hy : I64 y) (ha : I64 a) (hbb : I64 b) (hc : I64 c) (hd : I64 d) (hp : Pow w) :
    Calls Tryd.prog 22 #[.agg #[.string s, .int .i64 x, .int .i64 y, .int .i64 a, .int .i64 b, .int .i64 c, .int .i64 d]] w fun e w' => e = .returned (.string (workR s x y a b c d)) ∧ Below w.heap.size w w' := by
  have hs' : s.size ≤ maxLen := by unfold maxLen; omega
  have cv := c_impl_ValidWork s x y a b c d
  cases hq : workB s x y a b c d
  · have HR := hid (show workR s x y a b c d = ⟨#[]⟩ by rw [workR, hq]; rfl)
    go_enter Tryd.func22, Tryd.ntmps22
    go_wp2_with (first | (go_at_call 70; refine (cv _ hs').mono ?_; rintro e w1 ⟨rfl, hb⟩; obtain ⟨hc, hf⟩ := bcell hb; have hz := hb.size; (try simp at hz); (try have hz0 : ∀ b, b < w.heap.size → b < w1.heap.size := fun b h => by omega); (try have hz1 : w.heap.size < w1.heap.size := by omega); (try have hz2 : w.heap.size + 1 < w1.heap.size := by omega); (try have hz3 : w.heap.size + 2 < w1.heap.size := by omega)))
    go_ret
    rw [HR.out]
    exact ⟨rfl, by (repeat' (first | (with_reducible exact Below.refl _ _) | (with_reducible refine Below.alloc ?_ ?_ _) | (with_reducible refine Below.drew ?_) | (with_reducible refine below_drewN ?_ _) | (with_reducible refine Below.setCell ?_ ?_ _) | (with_reducible refine below_via ‹_› ?_ ?_) | (with_reducible refine below_grow ?_ ?_ _ _) | omega | (simp; done) | (simp; omega)))⟩
  · obtain ⟨hfit, hpt, -⟩ := work_fits hq
    have hok : ∀ x ∈ [a, b, c, d], I64 x := by simp [ha, hbb, hc, hd]
    have hz := listL_size hok
    have hsz : (bs (listL [a, b, c, d])).size ≤ 89 := by rw [bs_size]; simpa using hz
    have hpz := pointL_size hx hy
    have HC := hid (work_cat s (pointL x y) (listL [a, b, c, d]))
    have HR := hid (show workR s x y a b c d = bs (workT s x y a b c d) by rw [workR, hq]; rfl)
    obtain ⟨l, hl⟩ : ∃ l, l = listL [a, b, c, d] := ⟨_, rfl⟩
    obtain ⟨p, hpl⟩ : ∃ p, p = pointL x y := ⟨_, rfl⟩
    have HLT := hid (show listT [a, b, c, d] = bs l by rw [listT_ok hfit, hl])
    have HPT := hid (show pointR x y = bs p by rw [pointR_ok hpt, hpl])
    rw [← hl] at hsz HC
    rw [← hpl] at hpz HC
    have HL := hid (And.intro hl hpl)
    have cl : ∀ v w', SlA w' 0 1 encI v [a, b, c, d] → Pow w' → Calls Tryd.prog 66 #[v] w' fun e w'' => e = .returned (.string (bs l)) ∧ Below w'.heap.size w' w'' := fun v w' h hp' => by rw [← HLT.out]; exact c_ListText v [a, b, c, d] w' h hok (by simp) hp'
    have cp : ∀ w', Pow w' → Calls Tryd.prog 71 #[.agg #[.int .i64 x, .int .i64 y]] w' fun e w'' => e = .returned (.string (bs p)) ∧ Below w'.heap.size w' w'' := fun w' hp' => by rw [← HPT.out]; exact c_PointText x y w' hx hy hp'
    obtain ⟨r1, r1'⟩ := big_no (n := s.size + 1) (by omega)
    obtain ⟨r2, r2'⟩ := big_no (n := s.size + 1 + (bs p).size) (by omega)
    obtain ⟨r3, r3'⟩ := big_no (n := s.size + 1 + (bs p).size + 1) (by omega)
    obtain ⟨r4, r4'⟩ := big_no (n := s.size + 1 + (bs p).size + 1 + (bs l).size) (by omega)
    obtain ⟨r5, r5'⟩ := big_no (n := s.size) (by omega)
    clear hl hpl hz hok hfit
    go_enter Tryd.func22, Tryd.ntmps22
    go_wp2_with (first | (go_at_call 70; refine (cv _ hs').mono ?_; rintro e w1 ⟨rfl, hb⟩; obtain ⟨hc, hf⟩ := bcell hb; have hz := hb.size; (try simp at hz); (try have hz0 : ∀ b, b < w.heap.size → b < w1.heap.size := fun b h => by omega); (try have hz1 : w.heap.size < w1.heap.size := by omega); (try have hz2 : w.heap.size + 1 < w1.heap.size := by omega); (try have hz3 : w.heap.size + 2 < w1.heap.size := by omega)))
    have q : ∀ j, j < 7 → w1.cell? ⟨w.heap.size, j, none⟩ = (w.alloc (.cells #[.string s, .int .i64 x, .int .i64 y, .int .i64 a, .int .i64 b, .int .i64 c, .int .i64 d] 37)).cell? ⟨w.heap.size, j, none⟩ := fun j hj => hc _ _ (by simp)
    have hz2 : w.heap.size < w1.heap.size := hz1
    have hB1 : Below w.heap.size w w1 := by (repeat' (first | (with_reducible exact Below.refl _ _) | (with_reducible refine Below.alloc ?_ ?_ _) | (with_reducible refine Below.drew ?_) | (with_reducible refine below_drewN ?_ _) | (with_reducible refine Below.setCell ?_ ?_ _) | (with_reducible refine below_via ‹_› ?_ ?_) | (with_reducible refine below_grow ?_ ?_ _ _) | omega | (simp; done) | (simp; omega)))
    have hp1 := hp.at hB1
    clear hc hf hb hz hz0 hz1
    have k0 : ∀ w', Since w1 w' → w'.cell? ⟨w.heap.size, 0, none⟩ = some (.string s) := fun w' h => below_cell h.out hz2 ((q 0 (by omega)).trans (by simp))
    have k1 : ∀ w', Since w1 w' → w'.cell? ⟨w.heap.size, 1, none⟩ = some (.int .i64 x) := fun w' h => below_cell h.out hz2 ((q 1 (by omega)).trans (by simp))
    have k2 : ∀ w', Since w1 w' → w'.cell? ⟨w.heap.size, 2, none⟩ = some (.int .i64 y) := fun w' h => below_cell h.out hz2 ((q 2 (by omega)).trans (by simp))
    have k3 : ∀ w', Since w1 w' → w'.cell? ⟨w.heap.size, 3, none⟩ = some (.int .i64 a) := fun w' h => below_cell h.out hz2 ((q 3 (by omega)).trans (by simp))
    have k4 : ∀ w', Since w1 w' → w'.cell? ⟨w.heap.size, 4, none⟩ = some (.int .i64 b) := fun w' h => below_cell h.out hz2 ((q 4 (by omega)).trans (by simp))
    have k5 : ∀ w', Since w1 w' → w'.cell? ⟨w.heap.size, 5, none⟩ = some (.int .i64 c) := fun w' h => below_cell h.out hz2 ((q 5 (by omega)).trans (by simp))
    have k6 : ∀ w', Since w1 w' → w'.cell? ⟨w.heap.size, 6, none⟩ = some (.int .i64 d) := fun w' h => below_cell h.out hz2 ((q 6 (by omega)).trans (by simp))
    clear q
    go_region_held3 (fun w' => Since w1 w') ((refine since_of ?_; (repeat' (first | (with_reducible exact Below.refl _ _) | (with_reducible refine Below.alloc ?_ ?_ _) | (with_reducible refine Below.drew ?_) | (with_reducible refine below_drewN ?_ _) | (with_reducible refine Below.setCell ?_ ?_ _) | (with_reducible refine below_via ‹_› ?_ ?_) | (with_reducible refine below_grow ?_ ?_ _ _) | omega | (simp; done) | (simp; omega))))) (first
      | (go_at_call 71; refine (cp _ (hp1.at (by (repeat' (first | (with_reducible exact Below.refl _ _) | (with_reducible refine Below.alloc ?_ ?_ _) | (with_reducible refine Below.drew ?_) | (with_reducible refine below_drewN ?_ _) | (with_reducible refine Below.setCell ?_ ?_ _) | (with_reducible refine below_via ‹_› ?_ ?_) | (with_reducible refine below_grow ?_ ?_ _ _) | omega | (simp; done) | (simp; omega)))))).mono ?_; rintro e w2 ⟨rfl, hb2⟩; have hz2 := hb2.size; (try simp at hz2))
      | (go_at_call 66; refine (cl _ _ (by first | exact sl_fresh (enc := encI) (fun _ => rfl) [a, b, c, d] rfl rfl rfl rfl (by simp) | (refine SlA.drew ?_; exact sl_fresh (enc := encI) (fun _ => rfl) [a, b, c, d] rfl rfl rfl rfl (by simp)) | (refine SlA.drew (SlA.drew ?_); exact sl_fresh (enc := encI) (fun _ => rfl) [a, b, c, d] rfl rfl rfl rfl (by simp)) | (refine SlA.at ?_ hb2; exact sl_fresh (enc := encI) (fun _ => rfl) [a, b, c, d] rfl rfl rfl rfl (by simp)) | (refine SlA.at (SlA.drew ?_) hb2; exact sl_fresh (enc := encI) (fun _ => rfl) [a, b, c, d] rfl rfl rfl rfl (by simp)) | (refine SlA.drew (SlA.at ?_ hb2); exact sl_fresh (enc := encI) (fun _ => rfl) [a, b, c, d] rfl rfl rfl rfl (by simp)) | (refine SlA.drew (SlA.at (SlA.drew ?_) hb2); exact sl_fresh (enc := encI) (fun _ => rfl) [a, b, c, d] rfl rfl rfl rfl (by simp)) | fail) (hp1.at (by (repeat' (first | (with_reducible exact Below.refl _ _) | (with_reducible refine Below.alloc ?_ ?_ _) | (with_reducible refine Below.drew ?_) | (with_reducible refine below_drewN ?_ _) | (with_reducible refine Below.setCell ?_ ?_ _) | (with_reducible refine below_via ‹_› ?_ ?_) | (with_reducible refine below_grow ?_ ?_ _ _) | omega | (simp; done) | (simp; omega)))))).mono ?_; rintro e w3 ⟨rfl, hb3⟩; have hz3 := hb3.size; (try simp at hz3)))
    all_goals
      go_wp2_with fail
      go_ret
      rw [HR.out, workT, ← HL.out.1, ← HL.out.2, ← HC.out]
      exact ⟨rfl, by (repeat' (first | (with_reducible exact Below.refl _ _) | (with_reducible refine Below.alloc ?_ ?_ _) | (with_reducible refine Below.drew ?_) | (with_reducible refine below_drewN ?_ _) | (with_reducible refine Below.setCell ?_ ?_ _) | (with_reducible refine below_via ‹_› ?_ ?_) | (with_reducible refine below_grow ?_ ?_ _ _) | omega | (simp; done) | (simp; omega)))⟩
end Go.Proofs.YtfnfkpmkppkleaaDoor
