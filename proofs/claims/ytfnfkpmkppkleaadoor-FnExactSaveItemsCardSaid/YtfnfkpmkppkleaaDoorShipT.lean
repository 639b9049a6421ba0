/- The text of a ship, both sides. -/
import Derived.Test.YtfnfkpmkppkleaaDoorList
import Derived.Test.YtfnfkpmkppkleaaDoorShip
import Derived.Deep.RegionHeld3
namespace Go.Proofs.YtfnfkpmkppkleaaDoor
open Go.RowKit Go.Sort
set_option linter.unusedVariables false
set_option maxRecDepth 100000

theorem sl_fresh {α : Type} {enc : α → List Value} (hn : ∀ x, (enc x).length = 1) {W w : World} {bk : Nat} (xs : List α) {T : TypeId} {cs : Array Value} (hW : W = w.alloc (.cells cs T)) (hb : bk = w.heap.size) (hcs : cs = (xs.flatMap enc).toArray) {m : Nat} (hm : m = xs.length) (hl : xs.length ≤ 1048576) :
    SlA W 0 1 enc (.slice (some ⟨bk, 0, none⟩) m m) xs := by
  subst hW; subst hb; subst hm; subst hcs
  by_cases h0 : xs.length = 0
  · have : xs = [] := List.eq_nil_of_length_eq_zero h0
    subst this
    exact .inl ⟨_, 0, rfl, rfl, Nat.zero_le _⟩
  · refine .inr ⟨w.heap.size, 0, xs.length, rfl, by omega, Nat.le_refl _, by unfold maxLen; omega, Nat.zero_le _, by simp, fun i hi j hj => ?_⟩
    have hj0 : j = 0 := by omega
    subst hj0
    have := flat_get (n := 1) enc hn xs i hi 0 (by omega)
    have hfl := flat_len (n := 1) enc hn xs
    rw [World.cell?_alloc_at _ _ _ _ rfl, ← this, List.getD_eq_getElem?_getD]
    simp only [Nat.zero_add, Nat.add_zero, Nat.mul_one, List.getElem?_toArray]
    rw [List.getElem?_eq_getElem (by omega)]; rfl

theorem SlA.drew {α : Type} {w : World} {lo n : Nat} {enc : α → List Value} {v : Value} {xs : List α} (h : SlA w lo n enc v xs) : SlA w.drew lo n enc v xs := h.below (Below.drew (Below.refl w.heap.size w)) (Nat.le_refl _)
def shipT (s : ByteArray) (a b c : Int) : List UInt8 := s.data.toList ++ 32 :: listL [a, b, c]
def shipR (s : ByteArray) (a b c : Int) : ByteArray := if shipB s a b c then bs (shipT s a b c) else ⟨#[]⟩
theorem ship_cat (s : ByteArray) (l : List UInt8) : s ++ (⟨#[32]⟩ : ByteArray) ++ bs l = bs (s.data.toList ++ 32 :: l) := by
  have e : (⟨#[32]⟩ : ByteArray) = bs [32] := rfl
  rw [← bs_self s, e, bs_app, bs_app]; simp [bs]
theorem listL_size {xs : List Int} (h : ∀ x ∈ xs, I64 x) : (listL xs).length ≤ 22 * xs.length + 1 := by
  unfold listL; split
  · simp
  · have := numsL_size h; omega
set_option maxHeartbeats 1000000 in
theorem c_l25ShipText (bk off : Nat) (s : ByteArray) (a b c : Int) (w : World) (hs : (s.size : Int) ≤ 1048576) (hb : bk < w.heap.size) (ha : I64 a) (hbb : I64 b) (hc : I64 c) (h0 : w.cell? ⟨bk, off, none⟩ = some (.string s)) (h1 : w.cell? ⟨bk, off+1, none⟩ = some (.int .i64 a))
    (h2 : w.cell? ⟨bk, off+2, none⟩ = some (.int .i64 b)) (h3 : w.cell? ⟨bk, off+3, none⟩ = some (.int .i64 c)) :
    Calls Tryd.prog 64 #[.pointer (some ⟨bk, off, none⟩)] w fun e w' => e = .returned (.string (bs (shipT s a b c))) ∧ Below w.heap.size w w' := by
  have hok : ∀ x ∈ [a, b, c], I64 x := by simp [ha, hbb, hc]
  have hz := listL_size hok
  have hsz : (bs (listL [a, b, c])).size ≤ 67 := by rw [bs_size]; simpa using hz
  have HC := hid (ship_cat s (listL [a, b, c]))
  have k0 : ∀ w', Since w w' → w'.cell? ⟨bk, off, none⟩ = some (.string s) := fun w' h => below_cell h.out hb h0
  have k1 : ∀ w', Since w w' → w'.cell? ⟨bk, off+1, none⟩ = some (.int .i64 a) := fun w' h => below_cell h.out hb h1
  have k2 : ∀ w', Since w w' → w'.cell? ⟨bk, off+2, none⟩ = some (.int .i64 b) := fun w' h => below_cell h.out hb h2
  have k3 : ∀ w', Since w w' → w'.cell? ⟨bk, off+3, none⟩ = some (.int .i64 c) := fun w' h => below_cell h.out hb h3
  obtain ⟨l, hl⟩ : ∃ l, l = listL [a, b, c] := ⟨_, rfl⟩
  rw [← hl] at hsz HC
  have cl : ∀ v w', SlA w' 0 1 encI v [a, b, c] → Calls Tryd.prog 122 #[v] w' fun e w'' => e = .returned (.string (bs l)) ∧ Below w'.heap.size w' w'' := fun v w' h => by rw [hl]; exact c_l01List v [a, b, c] w' h hok (by simp)
  have HL := hid hl
  have r1 : ¬ (9223372036854775807 < s.size + 1) := by omega
  have r2 : ¬ (9223372036854775807 ≤ s.size) := by omega
  have r3 : ¬ (9223372036854775807 < s.size + 1 + (bs l).size) := by omega
  clear hl hz hok
  go_enter Tryd.func64, Tryd.ntmps64
  go_wp2_with fail
  go_region_held3 (fun w' => Since w w') ((refine since_of ?_; (repeat' (first | (with_reducible exact Below.refl _ _) | (with_reducible refine Below.alloc ?_ ?_ _) | (with_reducible refine Below.drew ?_) | (with_reducible refine below_drewN ?_ _) | (with_reducible refine Below.setCell ?_ ?_ _) | (with_reducible refine below_via ‹_› ?_ ?_) | (with_reducible refine below_grow ?_ ?_ _ _) | omega | (simp; done) | (simp; omega))))) (first
    | (go_at_call 122; refine (cl _ _ (by first | exact sl_fresh (enc := encI) (fun _ => rfl) [a, b, c] rfl rfl rfl rfl (by simp) | exact SlA.drew (sl_fresh (enc := encI) (fun _ => rfl) [a, b, c] rfl rfl rfl rfl (by simp)) | exact SlA.drew (SlA.drew (sl_fresh (enc := encI) (fun _ => rfl) [a, b, c] rfl rfl rfl rfl (by simp))) | fail)).mono ?_; rintro e w1 ⟨rfl, hb1⟩; have hz1 := hb1.size; (try simp at hz1)))
  go_wp2_with fail
  go_ret
  rw [shipT, ← HL.out, ← HC.out]
  exact ⟨rfl, by (repeat' (first | (with_reducible exact Below.refl _ _) | (with_reducible refine Below.alloc ?_ ?_ _) | (with_reducible refine Below.drew ?_) | (with_reducible refine below_drewN ?_ _) | (with_reducible refine Below.setCell ?_ ?_ _) | (with_reducible refine below_via ‹_› ?_ ?_) | (with_reducible refine below_grow ?_ ?_ _ _) | omega | (simp; done) | (simp; omega)))⟩
theorem c_spec_ShipText (s : ByteArray) (a b c : Int) (w : World) (hs : (s.size : Int) ≤ 1048576) (ha : I64 a) (hbb : I64 b) (hc : I64 c) :
    Calls Tryd.prog 16 #[.agg #[.string s, .int .i64 a, .int .i64 b, .int .i64 c]] w fun e w' => e = .returned (.string (shipR s a b c)) ∧ Below w.heap.size w w' := by
  have hs' : s.size ≤ maxLen := by unfold maxLen; omega
  cases hq : shipB s a b c
  · have HR := hid (show shipR s a b c = ⟨#[]⟩ by rw [shipR, hq]; rfl)
    go_enter Tryd.func16, Tryd.ntmps16
    go_wp2_with (first | (go_at_call 63; refine (c_l25Ship _ _ s a b c _ hs' (by simp) (by simp) (by simp) (by simp)).mono ?_; rintro e w' ⟨rfl, rfl⟩))
    go_ret
    rw [HR.out]
    exact ⟨rfl, by (repeat' (first | (with_reducible exact Below.refl _ _) | (with_reducible refine Below.alloc ?_ ?_ _) | (with_reducible refine Below.drew ?_) | (with_reducible refine below_drewN ?_ _) | (with_reducible refine Below.setCell ?_ ?_ _) | (with_reducible refine below_via ‹_› ?_ ?_) | (with_reducible refine below_grow ?_ ?_ _ _) | omega | (simp; done) | (simp; omega)))⟩
  · have HR := hid (show shipR s a b c = bs (shipT s a b c) by rw [shipR, hq]; rfl)
    go_enter Tryd.func16, Tryd.ntmps16
    go_wp2_with (first | (go_at_call 63; refine (c_l25Ship _ _ s a b c _ hs' (by simp) (by simp) (by simp) (by simp)).mono ?_; rintro e w' ⟨rfl, rfl⟩) | (go_at_call 64; refine (c_l25ShipText _ 0 s a b c _ hs (by simp) ha hbb hc (by simp) (by simp) (by simp) (by simp)).mono ?_; rintro e w1 ⟨rfl, hb⟩; obtain ⟨hc, hf⟩ := bcell hb; have hz := hb.size; (try simp at hz); (try have hz0 : ∀ b, b < w.heap.size → b < w1.heap.size := fun b h => by omega); (try have hz1 : w.heap.size < w1.heap.size := by omega); (try have hz2 : w.heap.size + 1 < w1.heap.size := by omega); (try have hz3 : w.heap.size + 2 < w1.heap.size := by omega)))
    go_ret
    rw [HR.out]
    exact ⟨rfl, by (repeat' (first | (with_reducible exact Below.refl _ _) | (with_reducible refine Below.alloc ?_ ?_ _) | (with_reducible refine Below.drew ?_) | (with_reducible refine below_drewN ?_ _) | (with_reducible refine Below.setCell ?_ ?_ _) | (with_reducible refine below_via ‹_› ?_ ?_) | (with_reducible refine below_grow ?_ ?_ _ _) | omega | (simp; done) | (simp; omega)))⟩
theorem ship_fits {s : ByteArray} {a b c : Int} (h : shipB s a b c = true) : fitsB [a, b, c] = true ∧ (s.size : Int) ≤ 10 ∧ I64 a ∧ I64 b ∧ I64 c := by
  simp only [shipB, Bool.and_eq_true] at h
  obtain ⟨⟨⟨h0, h1⟩, h2⟩, h3⟩ := h
  have e1 := inB_true h1
  have e2 := inB_true h2
  have e3 := inB_true h3
  have e0 : (s.size : Int) ≤ 10 := by simp only [nameB, Bool.and_eq_true, decide_eq_true_eq] at h0; exact h0.1.1.2
  refine ⟨?_, e0, by unfold I64; omega, by unfold I64; omega, by unfold I64; omega⟩
  simp [fitsB, inB]; omega
set_option maxHeartbeats 1000000 in
theorem c_impl_ShipText (s : ByteArray) (a b c : Int) (w : World) (hs : (s.size : Int) ≤ 1048576) (ha : I64 a) (hbb : I64 b) (hc : I64 c) (hp : Pow w) :
    Calls Tryd.prog 18 #[.agg #[.string s, .int .i64 a, .int .i64 b, .int .i64 c]] w fun e w' => e = .returned (.string (shipR s a b c)) ∧ Below w.heap.size w w' := by
  have hs' : s.size ≤ maxLen := by unfold maxLen; omega
  have cv := c_impl_ValidShip s a b c
  cases hq : shipB s a b c
  · have HR := hid (show shipR s a b c = ⟨#[]⟩ by rw [shipR, hq]; rfl)
    go_enter Tryd.func18, Tryd.ntmps18
    go_wp2_with (first | (go_at_call 65; refine (cv _ hs').mono ?_; rintro e w1 ⟨rfl, hb⟩; obtain ⟨hc, hf⟩ := bcell hb; have hz := hb.size; (try simp at hz); (try have hz0 : ∀ b, b < w.heap.size → b < w1.heap.size := fun b h => by omega); (try have hz1 : w.heap.size < w1.heap.size := by omega); (try have hz2 : w.heap.size + 1 < w1.heap.size := by omega); (try have hz3 : w.heap.size + 2 < w1.heap.size := by omega)))
    go_ret
    rw [HR.out]
    exact ⟨rfl, by (repeat' (first | (with_reducible exact Below.refl _ _) | (with_reducible refine Below.alloc ?_ ?_ _) | (with_reducible refine Below.drew ?_) | (with_reducible refine below_drewN ?_ _) | (with_reducible refine Below.setCell ?_ ?_ _) | (with_reducible refine below_via ‹_› ?_ ?_) | (with_reducible refine below_grow ?_ ?_ _ _) | omega | (simp; done) | (simp; omega)))⟩
  · obtain ⟨hfit, -⟩ := ship_fits hq
    have hok : ∀ x ∈ [a, b, c], I64 x := by simp [ha, hbb, hc]
    have hz := listL_size hok
    have hsz : (bs (listL [a, b, c])).size ≤ 67 := by rw [bs_size]; simpa using hz
    have HC := hid (ship_cat s (listL [a, b, c]))
    have HR := hid (show shipR s a b c = bs (shipT s a b c) by rw [shipR, hq]; rfl)
    obtain ⟨l, hl⟩ : ∃ l, l = listL [a, b, c] := ⟨_, rfl⟩
    have HLT := hid (show listT [a, b, c] = bs l by rw [listT_ok hfit, hl])
    rw [← hl] at hsz HC
    have HL := hid hl
    have cl : ∀ v w', SlA w' 0 1 encI v [a, b, c] → Pow w' → Calls Tryd.prog 66 #[v] w' fun e w'' => e = .returned (.string (bs l)) ∧ Below w'.heap.size w' w'' := fun v w' h hp' => by rw [← HLT.out]; exact c_ListText v [a, b, c] w' h hok (by simp) hp'
    have r1 : ¬ (9223372036854775807 < s.size + 1) := by omega
    have r2 : ¬ (9223372036854775807 ≤ s.size) := by omega
    have r3 : ¬ (9223372036854775807 < s.size + 1 + (bs l).size) := by omega
    clear hl hz hok hfit
    go_enter Tryd.func18, Tryd.ntmps18
    go_wp2_with (first | (go_at_call 65; refine (cv _ hs').mono ?_; rintro e w1 ⟨rfl, hb⟩; obtain ⟨hc, hf⟩ := bcell hb; have hz := hb.size; (try simp at hz); (try have hz0 : ∀ b, b < w.heap.size → b < w1.heap.size := fun b h => by omega); (try have hz1 : w.heap.size < w1.heap.size := by omega); (try have hz2 : w.heap.size + 1 < w1.heap.size := by omega); (try have hz3 : w.heap.size + 2 < w1.heap.size := by omega)))
    have q0 : w1.cell? ⟨w.heap.size, 0, none⟩ = some (.string s) := by simp [hc, go_sem]
    have q1 : w1.cell? ⟨w.heap.size, 0 + 1, none⟩ = some (.int .i64 a) := by simp [hc, go_sem]
    have q2 : w1.cell? ⟨w.heap.size, 0 + 2, none⟩ = some (.int .i64 b) := by simp [hc, go_sem]
    have q3 : w1.cell? ⟨w.heap.size, 0 + 3, none⟩ = some (.int .i64 c) := by simp [hc, go_sem]
    have hB1 : Below w.heap.size w w1 := by (repeat' (first | (with_reducible exact Below.refl _ _) | (with_reducible refine Below.alloc ?_ ?_ _) | (with_reducible refine Below.drew ?_) | (with_reducible refine below_drewN ?_ _) | (with_reducible refine Below.setCell ?_ ?_ _) | (with_reducible refine below_via ‹_› ?_ ?_) | (with_reducible refine below_grow ?_ ?_ _ _) | omega | (simp; done) | (simp; omega)))
    have hp1 := hp.at hB1
    clear hc hf hb hz hz0
    have k0 : ∀ w', Since w1 w' → w'.cell? ⟨w.heap.size, 0, none⟩ = some (.string s) := fun w' h => below_cell h.out hz1 q0
    have k1 : ∀ w', Since w1 w' → w'.cell? ⟨w.heap.size, 1, none⟩ = some (.int .i64 a) := fun w' h => below_cell h.out hz1 q1
    have k2 : ∀ w', Since w1 w' → w'.cell? ⟨w.heap.size, 2, none⟩ = some (.int .i64 b) := fun w' h => below_cell h.out hz1 q2
    have k3 : ∀ w', Since w1 w' → w'.cell? ⟨w.heap.size, 3, none⟩ = some (.int .i64 c) := fun w' h => below_cell h.out hz1 q3
    go_region_held3 (fun w' => Since w1 w') ((refine since_of ?_; (repeat' (first | (with_reducible exact Below.refl _ _) | (with_reducible refine Below.alloc ?_ ?_ _) | (with_reducible refine Below.drew ?_) | (with_reducible refine below_drewN ?_ _) | (with_reducible refine Below.setCell ?_ ?_ _) | (with_reducible refine below_via ‹_› ?_ ?_) | (with_reducible refine below_grow ?_ ?_ _ _) | omega | (simp; done) | (simp; omega))))) (first
      | (go_at_call 66; refine (cl _ _ (by first | exact sl_fresh (enc := encI) (fun _ => rfl) [a, b, c] rfl rfl rfl rfl (by simp) | exact SlA.drew (sl_fresh (enc := encI) (fun _ => rfl) [a, b, c] rfl rfl rfl rfl (by simp)) | exact SlA.drew (SlA.drew (sl_fresh (enc := encI) (fun _ => rfl) [a, b, c] rfl rfl rfl rfl (by simp))) | fail) (hp1.at (by (repeat' (first | (with_reducible exact Below.refl _ _) | (with_reducible refine Below.alloc ?_ ?_ _) | (with_reducible refine Below.drew ?_) | (with_reducible refine below_drewN ?_ _) | (with_reducible refine Below.setCell ?_ ?_ _) | (with_reducible refine below_via ‹_› ?_ ?_) | (with_reducible refine below_grow ?_ ?_ _ _) | omega | (simp; done) | (simp; omega)))))).mono ?_; rintro e w2 ⟨rfl, hb2⟩; have hz2 := hb2.size; (try simp at hz2)))
    go_wp2_with fail
    go_ret
    rw [HR.out, shipT, ← HL.out, ← HC.out]
    exact ⟨rfl, by (repeat' (first | (with_reducible exact Below.refl _ _) | (with_reducible refine Below.alloc ?_ ?_ _) | (with_reducible refine Below.drew ?_) | (with_reducible refine below_drewN ?_ _) | (with_reducible refine Below.setCell ?_ ?_ _) | (with_reducible refine below_via ‹_› ?_ ?_) | (with_reducible refine below_grow ?_ ?_ _ _) | omega | (simp; done) | (simp; omega)))⟩
end Go.Proofs.YtfnfkpmkppkleaaDoor
