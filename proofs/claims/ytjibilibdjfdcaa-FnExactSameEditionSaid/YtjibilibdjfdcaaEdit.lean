/- Editions: copy, size, equality, on both sides. -/
import Derived.Test.YtjibilibdjfdcaaAidEL
import Derived.Test.YtjibilibdjfdcaaAidEI
namespace Go.Proofs.Ytjibilibdjfdcaa
open Go.RowKit Go.Sort
set_option linter.unusedVariables false
set_option maxRecDepth 100000

/-- a list of aids that can be read -/
def EdA (w : World) (v : Value) (xs : List AidD) : Prop := SlA w 0 16 encAid v xs ∧ ∀ x ∈ xs, inAid w 0 x
theorem EdA.at {w w' : World} {v : Value} {xs : List AidD} (h : EdA w v xs) (hb : Below w.heap.size w w') : EdA w' v xs := ⟨h.1.at hb, fun x hx => (h.2 x hx).below hb (Nat.le_refl _)⟩
/-- a copy of a list of aids -/
def EdC (w : World) (v : Value) (ys xs : List AidD) : Prop := EdA w v ys ∧ ys.length = xs.length ∧ ∀ i, (h : i < ys.length) → (h' : i < xs.length) → sameAid xs[i] ys[i]
theorem EdC.at {w w' : World} {v : Value} {ys xs : List AidD} (h : EdC w v ys xs) (hb : Below w.heap.size w w') : EdC w' v ys xs := ⟨h.1.at hb, h.2⟩
theorem EdC.plain {w : World} {v : Value} {ys xs : List AidD} (h : EdC w v ys xs) : ys.map aidP = xs.map aidP := by
  refine List.ext_getElem (by simp [h.2.1]) fun k h1 h2 => ?_
  simp only [List.length_map] at h1 h2
  simpa using sameAid_plain (h.2.2 k h1 h2)
theorem sameAid.two {d e f : AidD} (h : sameAid d e) (k : sameAid d f) : sameAid e f := by
  unfold sameAid at *
  simp_all
/-- the copies of one list are alike -/
theorem EdC.alike {w : World} {v v' : Value} {ys zs xs : List AidD} (h : EdC w v ys xs) (k : EdC w v' zs xs) : zs.length = ys.length ∧ ∀ i, (h : i < ys.length) → (h' : i < zs.length) → sameAid ys[i] zs[i] :=
  ⟨by rw [h.2.1, k.2.1], fun i h1 h2 => (h.2.2 i h1 (by rw [← h.2.1]; exact h1)).two (k.2.2 i h2 (by rw [← h.2.1]; exact h1))⟩
theorem tot_small : ∀ {xs : List AidD} {n : Int}, totAid xs ≤ n → n ≤ 1048576 → ∀ x ∈ xs, x.fLightGroup.length ≤ 1048576 ∧ x.fSectors.length ≤ 1048576
  | [], _, _, _, x, hx => by cases hx
  | d :: l, n, h, hn, x, hx => by
    have h1 := totAid_nn l
    have h2 := sizeAid_nn d
    rw [totAid] at h
    rcases List.mem_cons.1 hx with rfl | hx
    · have h3 := totSector_nn x.fSectors
      unfold sizeAid at h
      omega
    · exact tot_small (n := n) (by omega) hn x hx
def edB (a b : Int) (ps : List AidP) (a' b' : Int) (ps' : List AidP) : Bool := (a == a') && ((b == b') && decide (ps = ps'))
theorem c_szEdition (a b : Int) (v : Value) (xs : List AidD) (n : Int) (w : World) (h : EdA w v xs) (hok : ∀ x ∈ xs, okAid x) (h0 : -1 ≤ n) (h1 : n ≤ 1048576) :
    Calls Try.prog 5 #[.agg #[.int .i64 a, .int .i64 b, v], .int .i64 n] w fun e w' => e = .returned (.int .i64 (szV n (xs.length + totAid xs))) ∧ Below w.heap.size w w' := by
  have hge := szV_ge n (xs.length + totAid xs)
  have hc := fun w' (hb : Below w.heap.size w w') => c_szAidS v xs n w' (h.at hb).1 hok (h.at hb).2 h0 h1
  have HC := hid hc
  clear hc h
  go_enter Try.func5, Try.ntmps5
  go_wp2_with fail
  refine (HC.out _ (by (repeat' (first | (with_reducible exact Below.refl _ _) | (with_reducible refine Below.alloc ?_ ?_ _) | (with_reducible refine Below.drew ?_) | (with_reducible refine below_drewN ?_ _) | (with_reducible refine Below.setCell ?_ ?_ _) | (with_reducible refine below_via ‹_› ?_ ?_) | (with_reducible refine below_grow ?_ ?_ _ _) | omega | (simp; done) | (simp; omega))))).mono ?_
  rintro e w1 ⟨rfl, hb1⟩
  have hz1 := hb1.size
  (try simp at hz1)
  have B1 : Below w.heap.size w w1 := by (repeat' (first | (with_reducible exact Below.refl _ _) | (with_reducible refine Below.alloc ?_ ?_ _) | (with_reducible refine Below.drew ?_) | (with_reducible refine below_drewN ?_ _) | (with_reducible refine Below.setCell ?_ ?_ _) | (with_reducible refine below_via ‹_› ?_ ?_) | (with_reducible refine below_grow ?_ ?_ _ _) | omega | (simp; done) | (simp; omega)))
  clear hb1
  go_wp2_with fail
  all_goals (go_ret; go_light; exact ⟨ret_int (by omega), by (repeat' (first | (with_reducible exact Below.refl _ _) | (with_reducible refine Below.alloc ?_ ?_ _) | (with_reducible refine Below.drew ?_) | (with_reducible refine below_drewN ?_ _) | (with_reducible refine Below.setCell ?_ ?_ _) | (with_reducible refine below_via ‹_› ?_ ?_) | (with_reducible refine below_grow ?_ ?_ _ _) | omega | (simp; done) | (simp; omega)))⟩)
theorem c_toEdition (a b : Int) (v : Value) (xs : List AidD) (w : World) (h : EdA w v xs) (hl : xs.length ≤ 1048576) (hsm : ∀ x ∈ xs, x.fLightGroup.length ≤ 1048576 ∧ x.fSectors.length ≤ 1048576) :
    Calls Try.prog 7 #[.agg #[.int .i64 a, .int .i64 b, v]] w fun e w' => ∃ (g : Nat) (ys : List AidD), e = .returned (.agg #[.int .i64 a, .int .i64 b, .slice (some ⟨g, 0, none⟩) xs.length xs.length]) ∧ Below w.heap.size w w' ∧ EdC w' (.slice (some ⟨g, 0, none⟩) xs.length xs.length) ys xs := by
  obtain ⟨ad, cp, rfl⟩ := h.1.form
  have hc := fun w' (hb : Below w.heap.size w w') => c_toAidS (.slice ad xs.length cp) xs w' (h.at hb).1 (h.at hb).2 hl hsm
  have HC := hid hc
  clear hc h
  go_enter Try.func7, Try.ntmps7
  go_wp2_with fail
  refine (HC.out _ (by (repeat' (first | (with_reducible exact Below.refl _ _) | (with_reducible refine Below.alloc ?_ ?_ _) | (with_reducible refine Below.drew ?_) | (with_reducible refine below_drewN ?_ _) | (with_reducible refine Below.setCell ?_ ?_ _) | (with_reducible refine below_via ‹_› ?_ ?_) | (with_reducible refine below_grow ?_ ?_ _ _) | omega | (simp; done) | (simp; omega))))).mono ?_
  rintro e w1 ⟨g, ys, rfl, hb1, hS, hC⟩
  obtain ⟨hc1, hf1⟩ := bcell hb1; have hz1 := hb1.size; (try simp at hz1); (try have hy : w.heap.size < w1.heap.size := by omega); (try have hy : w.heap.size ≤ w1.heap.size := by omega); (try have hy : w.heap.size + 1 < w1.heap.size := by omega); (try have hy : w.heap.size + 1 ≤ w1.heap.size := by omega); (try have hy : w.heap.size + 2 < w1.heap.size := by omega); (try have hy : w.heap.size + 2 ≤ w1.heap.size := by omega)
  have pS := SlO.mono hS (show w.heap.size + 3 ≤ _ by first | omega | (simp; done) | (simp; omega))
  have pC : ∀ y ∈ ys, ownAid w1 (w.heap.size + 3) y := fun y hy => (hC.2.2 y hy).mono (by first | omega | (simp; done) | (simp; omega))
  have HS := hid pS
  have HP := hid pC
  have HQ := hid (And.intro hC.1 hC.2.1)
  clear pS pC hS hC
  go_wp2_with fail
  refine bodyPost_ret (v := .agg #[.int .i64 a, .int .i64 b, .slice (some ⟨g, 0, none⟩) xs.length xs.length]) (by simp [results, Try.results7, go_sem, *]) rfl ⟨g, ys, rfl, by (repeat' (first | (with_reducible exact Below.refl _ _) | (with_reducible refine Below.alloc ?_ ?_ _) | (with_reducible refine Below.drew ?_) | (with_reducible refine below_drewN ?_ _) | (with_reducible refine Below.setCell ?_ ?_ _) | (with_reducible refine below_via ‹_› ?_ ?_) | (with_reducible refine below_grow ?_ ?_ _ _) | omega | (simp; done) | (simp; omega))), ⟨?_, ?_⟩, HQ.out.1, HQ.out.2⟩
  · refine SlA.mono (lo := w.heap.size + 3) (And.left (?_ : SlO _ (w.heap.size + 3) 16 encAid _ ys)) (Nat.zero_le _)
    repeat' (first | (with_reducible exact HS.out) | (with_reducible refine SlO.setLt ?_ ?_ _) | (simp; done) | omega | (simp; omega))
  · intro y hy
    refine inAid.mono (lo := w.heap.size + 3) (ownAid.in ?_) (Nat.zero_le _)
    repeat' (first | (with_reducible exact HP.out y hy) | (with_reducible refine ownAid.setLt ?_ ?_ _) | (simp; done) | omega | (simp; omega))
theorem c_eqEdition (a b : Int) (v v' : Value) (xs ys zs : List AidD) (w : World) (h : EdC w v ys xs) (h' : EdC w v' zs xs) :
    Calls Try.prog 9 #[.agg #[.int .i64 a, .int .i64 b, v], .agg #[.int .i64 a, .int .i64 b, v']] w fun e w' => e = .returned (.bool true) ∧ Below w.heap.size w w' := by
  have hc := fun w' (hb : Below w.heap.size w w') => c_eqAidS v v' 0 0 ys zs w' (h.at hb).1.1 (h'.at hb).1.1 (h.alike h').1 (h.alike h').2 (h.at hb).1.2 (h'.at hb).1.2
  have HC := hid hc
  obtain ⟨ad, cp, rfl⟩ := h.1.1.form
  obtain ⟨ad', cp', rfl⟩ := h'.1.1.form
  clear hc h h'
  go_enter Try.func9, Try.ntmps9
  go_wp2_with fail
  refine (HC.out _ (by (repeat' (first | (with_reducible exact Below.refl _ _) | (with_reducible refine Below.alloc ?_ ?_ _) | (with_reducible refine Below.drew ?_) | (with_reducible refine below_drewN ?_ _) | (with_reducible refine Below.setCell ?_ ?_ _) | (with_reducible refine below_via ‹_› ?_ ?_) | (with_reducible refine below_grow ?_ ?_ _ _) | omega | (simp; done) | (simp; omega))))).mono ?_
  rintro e w1 ⟨rfl, hb1⟩
  have B1 : Below w.heap.size w w1 := by (repeat' (first | (with_reducible exact Below.refl _ _) | (with_reducible refine Below.alloc ?_ ?_ _) | (with_reducible refine Below.drew ?_) | (with_reducible refine below_drewN ?_ _) | (with_reducible refine Below.setCell ?_ ?_ _) | (with_reducible refine below_via ‹_› ?_ ?_) | (with_reducible refine below_grow ?_ ?_ _ _) | omega | (simp; done) | (simp; omega)))
  go_wp2_with fail
  go_ret
  exact ⟨rfl, B1⟩
theorem c_SameAids (v v' : Value) (xs ys : List AidD) (w : World) (h : EdA w v xs) (h' : EdA w v' ys) :
    Calls Try.prog 22 #[v, v'] w fun e w' => e = .returned (.bool (sameG aidP xs ys)) ∧ Below w.heap.size w w' := by
  have hc := fun w' (hb : Below w.heap.size w w') => c_EqualFuncAids v v' xs ys w' (h.at hb).1 (h'.at hb).1 (h.at hb).2 (h'.at hb).2
  have HC := hid hc
  clear hc h h'
  go_enter Try.func22, Try.ntmps22
  go_wp2_with fail
  refine (HC.out _ (by (repeat' (first | (with_reducible exact Below.refl _ _) | (with_reducible refine Below.alloc ?_ ?_ _) | (with_reducible refine Below.drew ?_) | (with_reducible refine below_drewN ?_ _) | (with_reducible refine Below.setCell ?_ ?_ _) | (with_reducible refine below_via ‹_› ?_ ?_) | (with_reducible refine below_grow ?_ ?_ _ _) | omega | (simp; done) | (simp; omega))))).mono ?_
  rintro e w1 ⟨rfl, hb1⟩
  have B1 : Below w.heap.size w w1 := by (repeat' (first | (with_reducible exact Below.refl _ _) | (with_reducible refine Below.alloc ?_ ?_ _) | (with_reducible refine Below.drew ?_) | (with_reducible refine below_drewN ?_ _) | (with_reducible refine Below.setCell ?_ ?_ _) | (with_reducible refine below_via ‹_› ?_ ?_) | (with_reducible refine below_grow ?_ ?_ _ _) | omega | (simp; done) | (simp; omega)))
  go_wp2_with fail
  go_ret
  exact ⟨rfl, B1⟩
set_option maxHeartbeats 1000000 in
theorem c_spec_SameEdition (a b : Int) (v : Value) (ys xs : List AidD) (a' b' : Int) (v' : Value) (ys' xs' : List AidD) (w : World) (h : EdC w v ys xs) (h' : EdC w v' ys' xs') :
    Calls Try.prog 6 #[.agg #[.int .i64 a, .int .i64 b, v], .agg #[.int .i64 a', .int .i64 b', v']] w fun e w' => e = .returned (.bool (edB a b (xs.map aidP) a' b' (xs'.map aidP))) ∧ Below w.heap.size w w' := by
  have hc := fun w' (hb : Below w.heap.size w w') => c_l23SameAids v v' ys ys' w' (h.at hb).1.1 (h'.at hb).1.1 (h.at hb).1.2 (h'.at hb).1.2
  rw [show sameG aidP ys ys' = decide (xs.map aidP = xs'.map aidP) by rw [sameG, h.plain, h'.plain]] at hc
  obtain ⟨r, hr⟩ : ∃ r, r = decide (xs.map aidP = xs'.map aidP) := ⟨_, rfl⟩
  have HE := hid (show edB a b (xs.map aidP) a' b' (xs'.map aidP) = ((a == a') && ((b == b') && r)) by rw [edB, hr])
  rw [← hr] at hc
  have HC := hid hc
  obtain ⟨ad, cp, rfl⟩ := h.1.1.form
  obtain ⟨ad', cp', rfl⟩ := h'.1.1.form
  clear hc h h' hr
  rw [HE.out]
  cases hq1 : (a == a')
  · go_enter Try.func6, Try.ntmps6
    go_wp2_with (go_at_call 20; refine (HC.out _ (by (repeat' (first | (with_reducible exact Below.refl _ _) | (with_reducible refine Below.alloc ?_ ?_ _) | (with_reducible refine Below.drew ?_) | (with_reducible refine below_drewN ?_ _) | (with_reducible refine Below.setCell ?_ ?_ _) | (with_reducible refine below_via ‹_› ?_ ?_) | (with_reducible refine below_grow ?_ ?_ _ _) | omega | (simp; done) | (simp; omega))))).mono ?_; rintro e w1 ⟨rfl, hb1⟩; have B1 : Below w.heap.size w w1 := by (repeat' (first | (with_reducible exact Below.refl _ _) | (with_reducible refine Below.alloc ?_ ?_ _) | (with_reducible refine Below.drew ?_) | (with_reducible refine below_drewN ?_ _) | (with_reducible refine Below.setCell ?_ ?_ _) | (with_reducible refine below_via ‹_› ?_ ?_) | (with_reducible refine below_grow ?_ ?_ _ _) | omega | (simp; done) | (simp; omega))))
    go_ret
    exact ⟨ret_bool (by simp [*]), by (repeat' (first | (with_reducible exact Below.refl _ _) | (with_reducible refine Below.alloc ?_ ?_ _) | (with_reducible refine Below.drew ?_) | (with_reducible refine below_drewN ?_ _) | (with_reducible refine Below.setCell ?_ ?_ _) | (with_reducible refine below_via ‹_› ?_ ?_) | (with_reducible refine below_grow ?_ ?_ _ _) | omega | (simp; done) | (simp; omega)))⟩
  cases hq2 : (b == b')
  · go_enter Try.func6, Try.ntmps6
    go_wp2_with (go_at_call 20; refine (HC.out _ (by (repeat' (first | (with_reducible exact Below.refl _ _) | (with_reducible refine Below.alloc ?_ ?_ _) | (with_reducible refine Below.drew ?_) | (with_reducible refine below_drewN ?_ _) | (with_reducible refine Below.setCell ?_ ?_ _) | (with_reducible refine below_via ‹_› ?_ ?_) | (with_reducible refine below_grow ?_ ?_ _ _) | omega | (simp; done) | (simp; omega))))).mono ?_; rintro e w1 ⟨rfl, hb1⟩; have B1 : Below w.heap.size w w1 := by (repeat' (first | (with_reducible exact Below.refl _ _) | (with_reducible refine Below.alloc ?_ ?_ _) | (with_reducible refine Below.drew ?_) | (with_reducible refine below_drewN ?_ _) | (with_reducible refine Below.setCell ?_ ?_ _) | (with_reducible refine below_via ‹_› ?_ ?_) | (with_reducible refine below_grow ?_ ?_ _ _) | omega | (simp; done) | (simp; omega))))
    go_ret
    exact ⟨ret_bool (by simp [*]), by (repeat' (first | (with_reducible exact Below.refl _ _) | (with_reducible refine Below.alloc ?_ ?_ _) | (with_reducible refine Below.drew ?_) | (with_reducible refine below_drewN ?_ _) | (with_reducible refine Below.setCell ?_ ?_ _) | (with_reducible refine below_via ‹_› ?_ ?_) | (with_reducible refine below_grow ?_ ?_ _ _) | omega | (simp; done) | (simp; omega)))⟩
  go_enter Try.func6, Try.ntmps6
  go_wp2_with (go_at_call 20; refine (HC.out _ (by (repeat' (first | (with_reducible exact Below.refl _ _) | (with_reducible refine Below.alloc ?_ ?_ _) | (with_reducible refine Below.drew ?_) | (with_reducible refine below_drewN ?_ _) | (with_reducible refine Below.setCell ?_ ?_ _) | (with_reducible refine below_via ‹_› ?_ ?_) | (with_reducible refine below_grow ?_ ?_ _ _) | omega | (simp; done) | (simp; omega))))).mono ?_; rintro e w1 ⟨rfl, hb1⟩; have B1 : Below w.heap.size w w1 := by (repeat' (first | (with_reducible exact Below.refl _ _) | (with_reducible refine Below.alloc ?_ ?_ _) | (with_reducible refine Below.drew ?_) | (with_reducible refine below_drewN ?_ _) | (with_reducible refine Below.setCell ?_ ?_ _) | (with_reducible refine below_via ‹_› ?_ ?_) | (with_reducible refine below_grow ?_ ?_ _ _) | omega | (simp; done) | (simp; omega))))
  go_ret
  exact ⟨ret_bool (by simp [*]), by (repeat' (first | (with_reducible exact Below.refl _ _) | (with_reducible refine Below.alloc ?_ ?_ _) | (with_reducible refine Below.drew ?_) | (with_reducible refine below_drewN ?_ _) | (with_reducible refine Below.setCell ?_ ?_ _) | (with_reducible refine below_via ‹_› ?_ ?_) | (with_reducible refine below_grow ?_ ?_ _ _) | omega | (simp; done) | (simp; omega)))⟩
set_option maxHeartbeats 1000000 in
theorem c_impl_SameEdition (a b : Int) (v : Value) (ys xs : List AidD) (a' b' : Int) (v' : Value) (ys' xs' : List AidD) (w : World) (h : EdC w v ys xs) (h' : EdC w v' ys' xs') :
    Calls Try.prog 8 #[.agg #[.int .i64 a, .int .i64 b, v], .agg #[.int .i64 a', .int .i64 b', v']] w fun e w' => e = .returned (.bool (edB a b (xs.map aidP) a' b' (xs'.map aidP))) ∧ Below w.heap.size w w' := by
  have hc := fun w' (hb : Below w.heap.size w w') => c_SameAids v v' ys ys' w' (h.at hb).1 (h'.at hb).1
  rw [show sameG aidP ys ys' = decide (xs.map aidP = xs'.map aidP) by rw [sameG, h.plain, h'.plain]] at hc
  obtain ⟨r, hr⟩ : ∃ r, r = decide (xs.map aidP = xs'.map aidP) := ⟨_, rfl⟩
  have HE := hid (show edB a b (xs.map aidP) a' b' (xs'.map aidP) = ((a == a') && ((b == b') && r)) by rw [edB, hr])
  rw [← hr] at hc
  have HC := hid hc
  obtain ⟨ad, cp, rfl⟩ := h.1.1.form
  obtain ⟨ad', cp', rfl⟩ := h'.1.1.form
  clear hc h h' hr
  rw [HE.out]
  cases hq1 : (a == a')
  · go_enter Try.func8, Try.ntmps8
    go_wp2_with (go_at_call 22; refine (HC.out _ (by (repeat' (first | (with_reducible exact Below.refl _ _) | (with_reducible refine Below.alloc ?_ ?_ _) | (with_reducible refine Below.drew ?_) | (with_reducible refine below_drewN ?_ _) | (with_reducible refine Below.setCell ?_ ?_ _) | (with_reducible refine below_via ‹_› ?_ ?_) | (with_reducible refine below_grow ?_ ?_ _ _) | omega | (simp; done) | (simp; omega))))).mono ?_; rintro e w1 ⟨rfl, hb1⟩; have B1 : Below w.heap.size w w1 := by (repeat' (first | (with_reducible exact Below.refl _ _) | (with_reducible refine Below.alloc ?_ ?_ _) | (with_reducible refine Below.drew ?_) | (with_reducible refine below_drewN ?_ _) | (with_reducible refine Below.setCell ?_ ?_ _) | (with_reducible refine below_via ‹_› ?_ ?_) | (with_reducible refine below_grow ?_ ?_ _ _) | omega | (simp; done) | (simp; omega))))
    go_ret
    exact ⟨ret_bool (by simp [*]), by (repeat' (first | (with_reducible exact Below.refl _ _) | (with_reducible refine Below.alloc ?_ ?_ _) | (with_reducible refine Below.drew ?_) | (with_reducible refine below_drewN ?_ _) | (with_reducible refine Below.setCell ?_ ?_ _) | (with_reducible refine below_via ‹_› ?_ ?_) | (with_reducible refine below_grow ?_ ?_ _ _) | omega | (simp; done) | (simp; omega)))⟩
  cases hq2 : (b == b')
  · go_enter Try.func8, Try.ntmps8
    go_wp2_with (go_at_call 22; refine (HC.out _ (by (repeat' (first | (with_reducible exact Below.refl _ _) | (with_reducible refine Below.alloc ?_ ?_ _) | (with_reducible refine Below.drew ?_) | (with_reducible refine below_drewN ?_ _) | (with_reducible refine Below.setCell ?_ ?_ _) | (with_reducible refine below_via ‹_› ?_ ?_) | (with_reducible refine below_grow ?_ ?_ _ _) | omega | (simp; done) | (simp; omega))))).mono ?_; rintro e w1 ⟨rfl, hb1⟩; have B1 : Below w.heap.size w w1 := by (repeat' (first | (with_reducible exact Below.refl _ _) | (with_reducible refine Below.alloc ?_ ?_ _) | (with_reducible refine Below.drew ?_) | (with_reducible refine below_drewN ?_ _) | (with_reducible refine Below.setCell ?_ ?_ _) | (with_reducible refine below_via ‹_› ?_ ?_) | (with_reducible refine below_grow ?_ ?_ _ _) | omega | (simp; done) | (simp; omega))))
    go_ret
    exact ⟨ret_bool (by simp [*]), by (repeat' (first | (with_reducible exact Below.refl _ _) | (with_reducible refine Below.alloc ?_ ?_ _) | (with_reducible refine Below.drew ?_) | (with_reducible refine below_drewN ?_ _) | (with_reducible refine Below.setCell ?_ ?_ _) | (with_reducible refine below_via ‹_› ?_ ?_) | (with_reducible refine below_grow ?_ ?_ _ _) | omega | (simp; done) | (simp; omega)))⟩
  go_enter Try.func8, Try.ntmps8
  go_wp2_with (go_at_call 22; refine (HC.out _ (by (repeat' (first | (with_reducible exact Below.refl _ _) | (with_reducible refine Below.alloc ?_ ?_ _) | (with_reducible refine Below.drew ?_) | (with_reducible refine below_drewN ?_ _) | (with_reducible refine Below.setCell ?_ ?_ _) | (with_reducible refine below_via ‹_› ?_ ?_) | (with_reducible refine below_grow ?_ ?_ _ _) | omega | (simp; done) | (simp; omega))))).mono ?_; rintro e w1 ⟨rfl, hb1⟩; have B1 : Below w.heap.size w w1 := by (repeat' (first | (with_reducible exact Below.refl _ _) | (with_reducible refine Below.alloc ?_ ?_ _) | (with_reducible refine Below.drew ?_) | (with_reducible refine below_drewN ?_ _) | (with_reducible refine Below.setCell ?_ ?_ _) | (with_reducible refine below_via ‹_› ?_ ?_) | (with_reducible refine below_grow ?_ ?_ _ _) | omega | (simp; done) | (simp; omega))))
  go_ret
  exact ⟨ret_bool (by simp [*]), by (repeat' (first | (with_reducible exact Below.refl _ _) | (with_reducible refine Below.alloc ?_ ?_ _) | (with_reducible refine Below.drew ?_) | (with_reducible refine below_drewN ?_ _) | (with_reducible refine Below.setCell ?_ ?_ _) | (with_reducible refine below_via ‹_› ?_ ?_) | (with_reducible refine below_grow ?_ ?_ _ _) | omega | (simp; done) | (simp; omega)))⟩
end Go.Proofs.Ytjibilibdjfdcaa
