/- The greedy voyage: the reference's side. -/
import Derived.Test.YtmolcfagmiecjaaGreed
namespace Go.Proofs.Ytmolcfagmiecjaa
open Go.RowKit Go.Sort
set_option maxRecDepth 100000

/-- the code of a voyage without an order -/
def askN (s : ByteArray) (a b c : Int) (x y : Int) (ws : List WorkD) (t : Int) : Int := askC s a b c x y ws [] t
def grL (s : ByteArray) (a b c x y : Int) (ws : List WorkD) (t : Int) : List Int := if askN s a b c x y ws t = 0 then greedF a b x y ws t ws.length [] else []
/-- an order and a code -/
def OrderCode (w w' : World) (os : List Int) (code : Int) (e : Ending) : Prop :=
  ∃ u, e = .returned (.tuple #[u, .int .i64 code]) ∧ Below w.heap.size w w' ∧ SlO w' w.heap.size 1 encI u os
theorem orderCode_none {w w' : World} (h : Below w.heap.size w w') {code : Int} {os : List Int} (hc : os = []) : OrderCode w w' os code (.returned (.tuple #[.slice none 0 0, .int .i64 code])) :=
  ⟨_, rfl, h, .inl ⟨none, 0, rfl, hc, Nat.zero_le _⟩, fun b hb => by simp [Value.ownBlock] at hb⟩
theorem greedF_end {a b x y t : Int} {ws : List WorkD} {os : List Int} {n : Nat} (h : (bestK (endK a b x y ws t os) ws.length).1 < 0) : greedF a b x y ws t n os = os := by
  cases n with
  | zero => rfl
  | succ n => rw [greedF, if_pos h]
theorem greedF_step {a b x y t : Int} {ws : List WorkD} {os : List Int} {n : Nat} (h : ¬ (bestK (endK a b x y ws t os) ws.length).1 < 0) : greedF a b x y ws t (n + 1) os = greedF a b x y ws t n (os ++ [(bestK (endK a b x y ws t os) ws.length).1]) := by rw [greedF, if_neg h]
/-- an order of different works is no longer than the works -/
theorem ord_len {m : Nat} {os : List Int} (h : ordB m os = true) (hd : ∀ i j, (hi : i < os.length) → (hj : j < os.length) → os[i] = os[j] → i = j) : os.length ≤ m := by
  have h1 : (os.map Int.toNat).Nodup := by
    refine List.pairwise_iff_getElem.2 fun i j hi hj hij e => ?_
    simp only [List.length_map] at hi hj
    rw [List.getElem_map, List.getElem_map] at e
    have a1 := ordB_true h i hi
    have a2 := ordB_true h j hj
    have := hd i j hi hj (by omega)
    omega
  have h2 : ∀ n ∈ os.map Int.toNat, n ∈ List.range m := fun n hn => by
    obtain ⟨k, hk, rfl⟩ := List.mem_map.1 hn
    obtain ⟨i, hi, rfl⟩ := List.getElem_of_mem hk
    have := ordB_true h i hi
    simp; omega
  have := List.Nodup.length_le_of_subset h1 h2
  simpa using this
theorem nextE_bd {a ld : Int} {ws : List WorkD} {os : List Int} {px py t l : Int} (hw : worksB ws = true) {k e : Int} (h0 : 0 ≤ k) (h1 : k < ws.length) (hk : nextE a ld ws os px py t l k = some e) : 0 ≤ e ∧ e ≤ 4320 := by
  unfold nextE at hk
  split at hk
  · cases hk
  · split at hk
    · cases hk
    · split at hk
      · rename_i he
        injection hk with hk
        have := workD_true (wK_valid hw h0 h1)
        have h2 : (wK ws k).fFrom + (wK ws k).fMinutes ≤ (mkC a px py t k (wK ws k)).fEnd := by simp only [mkC]; omega
        omega
      · cases hk
theorem bestK_none {f : Int → Option Int} {n : Nat} (h : f n = none) : bestK f (n + 1) = bestK f n := by rw [bestK, h]
theorem bestK_new {f : Int → Option Int} {n : Nat} {e : Int} (h : f n = some e) (h2 : (bestK f n).1 < 0 ∨ e < (bestK f n).2) : bestK f (n + 1) = ((n : Int), e) := by rw [bestK, h]; simp only [if_pos h2]
theorem bestK_old {f : Int → Option Int} {n : Nat} {e : Int} (h : f n = some e) (h2 : ¬ ((bestK f n).1 < 0 ∨ e < (bestK f n).2)) : bestK f (n + 1) = bestK f n := by rw [bestK, h]; simp only [if_neg h2]
theorem bestK_bd {f : Int → Option Int} {n : Nat} (h : ∀ k : Nat, k < n → ∀ e, f k = some e → 0 ≤ e ∧ e ≤ 4320) : -1 ≤ (bestK f n).1 ∧ (bestK f n).1 < n ∧ 0 ≤ (bestK f n).2 ∧ (bestK f n).2 ≤ 4320 := by
  induction n with
  | zero => simp [bestK]
  | succ n ih =>
    have ih := ih fun k hk => h k (by omega)
    cases hf : f n with
    | none => rw [bestK_none hf]; omega
    | some e =>
      have := h n (by omega) e hf
      by_cases h2 : (bestK f n).1 < 0 ∨ e < (bestK f n).2
      · rw [bestK_new hf h2]; simp only; omega
      · rw [bestK_old hf h2]; omega
def slLen : Value → Nat
  | .slice _ n _ => n
  | _ => 0
set_option maxHeartbeats 4000000 in
theorem c_spec_GreedyVoyage (s : ByteArray) (a b c x y : Int) (v : Value) (ws : List WorkD) (t : Int) (w : World) (hs : s.size ≤ maxLen) (h : SlA w 0 7 encWork v ws) (hok : ∀ x ∈ ws, okWork x) :
    Calls Try.prog 18 #[.agg #[.string s, .int .i64 a, .int .i64 b, .int .i64 c], .agg #[.int .i64 x, .int .i64 y], v, .int .i64 t] w fun e w' => OrderCode w w' (grL s a b c x y ws t) (askN s a b c x y ws t) e := by
  cases hq1 : shipB s a b c
  · have HL := hid (show grL s a b c x y ws t = [] ∧ askN s a b c x y ws t = askN s a b c x y ws t from ⟨by simp [grL, askN, askC, *], rfl⟩)
    have HC := hid (show askN s a b c x y ws t = if shipB s a b c && (pointB x y && worksB ws) then 2 else 1 by simp [askN, askC, *])
    go_enter Try.func18, Try.ntmps18
    go_wp2_with (first | (go_at_call 59; refine (c_l25Ship _ _ s a b c _ hs (by first | assumption | (simp [*, go_sem]; done)) (by first | assumption | (simp [*, go_sem]; done)) (by first | assumption | (simp [*, go_sem]; done)) (by first | assumption | (simp [*, go_sem]; done))).mono ?_; rintro e w' ⟨rfl, rfl⟩) | (go_at_call 60; refine (c_l02Ok _ _ _).mono ?_; rintro e w1 ⟨rfl, hb⟩; obtain ⟨hc, hf⟩ := bcell hb; have hz := hb.size; (try simp at hz); (try have hz0 : ∀ b, b < w.heap.size → b < w1.heap.size := fun b h => by omega); (try have hz1 : w.heap.size < w1.heap.size := by omega); (try have hz2 : w.heap.size + 1 < w1.heap.size := by omega); (try have hz3 : w.heap.size + 2 < w1.heap.size := by omega)) | (go_at_call 61; refine (c_l25List _ _ _ (by first | (with_reducible assumption) | (with_reducible apply SlO.at; (with_reducible assumption); (repeat' (first | (with_reducible exact Below.refl _ _) | (with_reducible refine Below.alloc ?_ ?_ _) | (with_reducible refine Below.drew ?_) | (with_reducible refine below_drewN ?_ _) | (with_reducible refine Below.setCell ?_ ?_ _) | (with_reducible refine below_via ‹_› ?_ ?_) | (with_reducible refine below_grow ?_ ?_ _ _) | omega | (simp; done) | (simp; omega))); done) | (with_reducible apply SlA.at; (with_reducible assumption); (repeat' (first | (with_reducible exact Below.refl _ _) | (with_reducible refine Below.alloc ?_ ?_ _) | (with_reducible refine Below.drew ?_) | (with_reducible refine below_drewN ?_ _) | (with_reducible refine Below.setCell ?_ ?_ _) | (with_reducible refine below_via ‹_› ?_ ?_) | (with_reducible refine below_grow ?_ ?_ _ _) | omega | (simp; done) | (simp; omega))); done)) (by assumption)).mono ?_; rintro e w1 ⟨rfl, hb⟩; obtain ⟨hc, hf⟩ := bcell hb; have hz := hb.size; (try simp at hz); (try have hz0 : ∀ b, b < w.heap.size → b < w1.heap.size := fun b h => by omega); (try have hz1 : w.heap.size < w1.heap.size := by omega); (try have hz2 : w.heap.size + 1 < w1.heap.size := by omega); (try have hz3 : w.heap.size + 2 < w1.heap.size := by omega)) | (go_at_call 62; refine (c_l00In _ _ _ _).mono ?_; rintro e w' ⟨rfl, rfl⟩))
    go_ret2
    rw [HC.out]
    simp only [*, Bool.true_and, Bool.false_and, Bool.and_true, Bool.and_false, if_true, if_false, Bool.false_eq_true]
    exact orderCode_none (by (repeat' (first | (with_reducible exact Below.refl _ _) | (with_reducible refine Below.alloc ?_ ?_ _) | (with_reducible refine Below.drew ?_) | (with_reducible refine below_drewN ?_ _) | (with_reducible refine Below.setCell ?_ ?_ _) | (with_reducible refine below_via ‹_› ?_ ?_) | (with_reducible refine below_grow ?_ ?_ _ _) | omega | (simp; done) | (simp; omega)))) HL.out.1
  cases hq2 : pointB x y
  · have HL := hid (show grL s a b c x y ws t = [] ∧ askN s a b c x y ws t = askN s a b c x y ws t from ⟨by simp [grL, askN, askC, *], rfl⟩)
    have HC := hid (show askN s a b c x y ws t = if shipB s a b c && (pointB x y && worksB ws) then 2 else 1 by simp [askN, askC, *])
    go_enter Try.func18, Try.ntmps18
    go_wp2_with (first | (go_at_call 59; refine (c_l25Ship _ _ s a b c _ hs (by first | assumption | (simp [*, go_sem]; done)) (by first | assumption | (simp [*, go_sem]; done)) (by first | assumption | (simp [*, go_sem]; done)) (by first | assumption | (simp [*, go_sem]; done))).mono ?_; rintro e w' ⟨rfl, rfl⟩) | (go_at_call 60; refine (c_l02Ok _ _ _).mono ?_; rintro e w1 ⟨rfl, hb⟩; obtain ⟨hc, hf⟩ := bcell hb; have hz := hb.size; (try simp at hz); (try have hz0 : ∀ b, b < w.heap.size → b < w1.heap.size := fun b h => by omega); (try have hz1 : w.heap.size < w1.heap.size := by omega); (try have hz2 : w.heap.size + 1 < w1.heap.size := by omega); (try have hz3 : w.heap.size + 2 < w1.heap.size := by omega)) | (go_at_call 61; refine (c_l25List _ _ _ (by first | (with_reducible assumption) | (with_reducible apply SlO.at; (with_reducible assumption); (repeat' (first | (with_reducible exact Below.refl _ _) | (with_reducible refine Below.alloc ?_ ?_ _) | (with_reducible refine Below.drew ?_) | (with_reducible refine below_drewN ?_ _) | (with_reducible refine Below.setCell ?_ ?_ _) | (with_reducible refine below_via ‹_› ?_ ?_) | (with_reducible refine below_grow ?_ ?_ _ _) | omega | (simp; done) | (simp; omega))); done) | (with_reducible apply SlA.at; (with_reducible assumption); (repeat' (first | (with_reducible exact Below.refl _ _) | (with_reducible refine Below.alloc ?_ ?_ _) | (with_reducible refine Below.drew ?_) | (with_reducible refine below_drewN ?_ _) | (with_reducible refine Below.setCell ?_ ?_ _) | (with_reducible refine below_via ‹_› ?_ ?_) | (with_reducible refine below_grow ?_ ?_ _ _) | omega | (simp; done) | (simp; omega))); done)) (by assumption)).mono ?_; rintro e w1 ⟨rfl, hb⟩; obtain ⟨hc, hf⟩ := bcell hb; have hz := hb.size; (try simp at hz); (try have hz0 : ∀ b, b < w.heap.size → b < w1.heap.size := fun b h => by omega); (try have hz1 : w.heap.size < w1.heap.size := by omega); (try have hz2 : w.heap.size + 1 < w1.heap.size := by omega); (try have hz3 : w.heap.size + 2 < w1.heap.size := by omega)) | (go_at_call 62; refine (c_l00In _ _ _ _).mono ?_; rintro e w' ⟨rfl, rfl⟩))
    go_ret2
    rw [HC.out]
    simp only [*, Bool.true_and, Bool.false_and, Bool.and_true, Bool.and_false, if_true, if_false, Bool.false_eq_true]
    exact orderCode_none (by (repeat' (first | (with_reducible exact Below.refl _ _) | (with_reducible refine Below.alloc ?_ ?_ _) | (with_reducible refine Below.drew ?_) | (with_reducible refine below_drewN ?_ _) | (with_reducible refine Below.setCell ?_ ?_ _) | (with_reducible refine below_via ‹_› ?_ ?_) | (with_reducible refine below_grow ?_ ?_ _ _) | omega | (simp; done) | (simp; omega)))) HL.out.1
  cases hq3 : worksB ws
  · have HL := hid (show grL s a b c x y ws t = [] ∧ askN s a b c x y ws t = askN s a b c x y ws t from ⟨by simp [grL, askN, askC, *], rfl⟩)
    have HC := hid (show askN s a b c x y ws t = if shipB s a b c && (pointB x y && worksB ws) then 2 else 1 by simp [askN, askC, *])
    go_enter Try.func18, Try.ntmps18
    go_wp2_with (first | (go_at_call 59; refine (c_l25Ship _ _ s a b c _ hs (by first | assumption | (simp [*, go_sem]; done)) (by first | assumption | (simp [*, go_sem]; done)) (by first | assumption | (simp [*, go_sem]; done)) (by first | assumption | (simp [*, go_sem]; done))).mono ?_; rintro e w' ⟨rfl, rfl⟩) | (go_at_call 60; refine (c_l02Ok _ _ _).mono ?_; rintro e w1 ⟨rfl, hb⟩; obtain ⟨hc, hf⟩ := bcell hb; have hz := hb.size; (try simp at hz); (try have hz0 : ∀ b, b < w.heap.size → b < w1.heap.size := fun b h => by omega); (try have hz1 : w.heap.size < w1.heap.size := by omega); (try have hz2 : w.heap.size + 1 < w1.heap.size := by omega); (try have hz3 : w.heap.size + 2 < w1.heap.size := by omega)) | (go_at_call 61; refine (c_l25List _ _ _ (by first | (with_reducible assumption) | (with_reducible apply SlO.at; (with_reducible assumption); (repeat' (first | (with_reducible exact Below.refl _ _) | (with_reducible refine Below.alloc ?_ ?_ _) | (with_reducible refine Below.drew ?_) | (with_reducible refine below_drewN ?_ _) | (with_reducible refine Below.setCell ?_ ?_ _) | (with_reducible refine below_via ‹_› ?_ ?_) | (with_reducible refine below_grow ?_ ?_ _ _) | omega | (simp; done) | (simp; omega))); done) | (with_reducible apply SlA.at; (with_reducible assumption); (repeat' (first | (with_reducible exact Below.refl _ _) | (with_reducible refine Below.alloc ?_ ?_ _) | (with_reducible refine Below.drew ?_) | (with_reducible refine below_drewN ?_ _) | (with_reducible refine Below.setCell ?_ ?_ _) | (with_reducible refine below_via ‹_› ?_ ?_) | (with_reducible refine below_grow ?_ ?_ _ _) | omega | (simp; done) | (simp; omega))); done)) (by assumption)).mono ?_; rintro e w1 ⟨rfl, hb⟩; obtain ⟨hc, hf⟩ := bcell hb; have hz := hb.size; (try simp at hz); (try have hz0 : ∀ b, b < w.heap.size → b < w1.heap.size := fun b h => by omega); (try have hz1 : w.heap.size < w1.heap.size := by omega); (try have hz2 : w.heap.size + 1 < w1.heap.size := by omega); (try have hz3 : w.heap.size + 2 < w1.heap.size := by omega)) | (go_at_call 62; refine (c_l00In _ _ _ _).mono ?_; rintro e w' ⟨rfl, rfl⟩))
    go_ret2
    rw [HC.out]
    simp only [*, Bool.true_and, Bool.false_and, Bool.and_true, Bool.and_false, if_true, if_false, Bool.false_eq_true]
    exact orderCode_none (by (repeat' (first | (with_reducible exact Below.refl _ _) | (with_reducible refine Below.alloc ?_ ?_ _) | (with_reducible refine Below.drew ?_) | (with_reducible refine below_drewN ?_ _) | (with_reducible refine Below.setCell ?_ ?_ _) | (with_reducible refine below_via ‹_› ?_ ?_) | (with_reducible refine below_grow ?_ ?_ _ _) | omega | (simp; done) | (simp; omega)))) HL.out.1
  cases hq4 : inB t 0 4320
  · have HL := hid (show grL s a b c x y ws t = [] ∧ askN s a b c x y ws t = askN s a b c x y ws t from ⟨by simp [grL, askN, askC, *], rfl⟩)
    have HC := hid (show askN s a b c x y ws t = if shipB s a b c && (pointB x y && worksB ws) then 2 else 1 by simp [askN, askC, *])
    go_enter Try.func18, Try.ntmps18
    go_wp2_with (first | (go_at_call 59; refine (c_l25Ship _ _ s a b c _ hs (by first | assumption | (simp [*, go_sem]; done)) (by first | assumption | (simp [*, go_sem]; done)) (by first | assumption | (simp [*, go_sem]; done)) (by first | assumption | (simp [*, go_sem]; done))).mono ?_; rintro e w' ⟨rfl, rfl⟩) | (go_at_call 60; refine (c_l02Ok _ _ _).mono ?_; rintro e w1 ⟨rfl, hb⟩; obtain ⟨hc, hf⟩ := bcell hb; have hz := hb.size; (try simp at hz); (try have hz0 : ∀ b, b < w.heap.size → b < w1.heap.size := fun b h => by omega); (try have hz1 : w.heap.size < w1.heap.size := by omega); (try have hz2 : w.heap.size + 1 < w1.heap.size := by omega); (try have hz3 : w.heap.size + 2 < w1.heap.size := by omega)) | (go_at_call 61; refine (c_l25List _ _ _ (by first | (with_reducible assumption) | (with_reducible apply SlO.at; (with_reducible assumption); (repeat' (first | (with_reducible exact Below.refl _ _) | (with_reducible refine Below.alloc ?_ ?_ _) | (with_reducible refine Below.drew ?_) | (with_reducible refine below_drewN ?_ _) | (with_reducible refine Below.setCell ?_ ?_ _) | (with_reducible refine below_via ‹_› ?_ ?_) | (with_reducible refine below_grow ?_ ?_ _ _) | omega | (simp; done) | (simp; omega))); done) | (with_reducible apply SlA.at; (with_reducible assumption); (repeat' (first | (with_reducible exact Below.refl _ _) | (with_reducible refine Below.alloc ?_ ?_ _) | (with_reducible refine Below.drew ?_) | (with_reducible refine below_drewN ?_ _) | (with_reducible refine Below.setCell ?_ ?_ _) | (with_reducible refine below_via ‹_› ?_ ?_) | (with_reducible refine below_grow ?_ ?_ _ _) | omega | (simp; done) | (simp; omega))); done)) (by assumption)).mono ?_; rintro e w1 ⟨rfl, hb⟩; obtain ⟨hc, hf⟩ := bcell hb; have hz := hb.size; (try simp at hz); (try have hz0 : ∀ b, b < w.heap.size → b < w1.heap.size := fun b h => by omega); (try have hz1 : w.heap.size < w1.heap.size := by omega); (try have hz2 : w.heap.size + 1 < w1.heap.size := by omega); (try have hz3 : w.heap.size + 2 < w1.heap.size := by omega)) | (go_at_call 62; refine (c_l00In _ _ _ _).mono ?_; rintro e w' ⟨rfl, rfl⟩))
    go_ret2
    rw [HC.out]
    simp only [*, Bool.true_and, Bool.false_and, Bool.and_true, Bool.and_false, if_true, if_false, Bool.false_eq_true]
    exact orderCode_none (by (repeat' (first | (with_reducible exact Below.refl _ _) | (with_reducible refine Below.alloc ?_ ?_ _) | (with_reducible refine Below.drew ?_) | (with_reducible refine below_drewN ?_ _) | (with_reducible refine Below.setCell ?_ ?_ _) | (with_reducible refine below_via ‹_› ?_ ?_) | (with_reducible refine below_grow ?_ ?_ _ _) | omega | (simp; done) | (simp; omega)))) HL.out.1
  obtain ⟨e1, e2, e3, e4, e5, e6⟩ := shipB_true hq1
  have hw := hq3
  have h12 := (works_all hw).1
  have ht := inB_true hq4
  have HAK := hid (show askN s a b c x y ws t = 0 by simp [askN, askC, *]; rfl)
  have HW := hid (fun (j : Nat) (hj : j < ws.length) => workD_true ((works_all hw).2 j hj))
  obtain ⟨i0, hi, iz0, iz1, iz2⟩ := info_parts info_Int64
  have H := h
  obtain ⟨av, cv, bv, ov, rfl, hmv, hav, hxv⟩ := h.uni
  have HXV := hid hxv
  clear hxv h
  go_enter Try.func18, Try.ntmps18
  go_wp2_with (first | (go_at_call 59; refine (c_l25Ship _ _ s a b c _ hs (by first | assumption | (simp [*, go_sem]; done)) (by first | assumption | (simp [*, go_sem]; done)) (by first | assumption | (simp [*, go_sem]; done)) (by first | assumption | (simp [*, go_sem]; done))).mono ?_; rintro e w' ⟨rfl, rfl⟩) | (go_at_call 60; refine (c_l02Ok _ _ _).mono ?_; rintro e w1 ⟨rfl, hb⟩; obtain ⟨hc, hf⟩ := bcell hb; have hz := hb.size; (try simp at hz); (try have hz0 : ∀ b, b < w.heap.size → b < w1.heap.size := fun b h => by omega); (try have hz1 : w.heap.size < w1.heap.size := by omega); (try have hz2 : w.heap.size + 1 < w1.heap.size := by omega); (try have hz3 : w.heap.size + 2 < w1.heap.size := by omega)) | (go_at_call 61; refine (c_l25List _ _ _ (by first | (with_reducible assumption) | (with_reducible apply SlO.at; (with_reducible assumption); (repeat' (first | (with_reducible exact Below.refl _ _) | (with_reducible refine Below.alloc ?_ ?_ _) | (with_reducible refine Below.drew ?_) | (with_reducible refine below_drewN ?_ _) | (with_reducible refine Below.setCell ?_ ?_ _) | (with_reducible refine below_via ‹_› ?_ ?_) | (with_reducible refine below_grow ?_ ?_ _ _) | omega | (simp; done) | (simp; omega))); done) | (with_reducible apply SlA.at; (with_reducible assumption); (repeat' (first | (with_reducible exact Below.refl _ _) | (with_reducible refine Below.alloc ?_ ?_ _) | (with_reducible refine Below.drew ?_) | (with_reducible refine below_drewN ?_ _) | (with_reducible refine Below.setCell ?_ ?_ _) | (with_reducible refine below_via ‹_› ?_ ?_) | (with_reducible refine below_grow ?_ ?_ _ _) | omega | (simp; done) | (simp; omega))); done)) (by assumption)).mono ?_; rintro e w1 ⟨rfl, hb⟩; obtain ⟨hc, hf⟩ := bcell hb; have hz := hb.size; (try simp at hz); (try have hz0 : ∀ b, b < w.heap.size → b < w1.heap.size := fun b h => by omega); (try have hz1 : w.heap.size < w1.heap.size := by omega); (try have hz2 : w.heap.size + 1 < w1.heap.size := by omega); (try have hz3 : w.heap.size + 2 < w1.heap.size := by omega)) | (go_at_call 62; refine (c_l00In _ _ _ _).mono ?_; rintro e w' ⟨rfl, rfl⟩))
  obtain ⟨W1, hW1⟩ : ∃ z, z = w1.alloc (.cells #[] 2) := ⟨_, rfl⟩
  obtain ⟨W2, hW2⟩ : ∃ z, z = W1.alloc (Obj.cells #[.int .i64 x, .int .i64 y] 33) := ⟨_, rfl⟩
  rw [← hW1, ← hW2]
  have hzb := hb.size
  (try simp only [World.size_alloc] at hzb)
  have hB0 : Below w.heap.size w w1 := by (repeat' (first | (with_reducible exact Below.refl _ _) | (with_reducible refine Below.alloc ?_ ?_ _) | (with_reducible refine Below.drew ?_) | (with_reducible refine below_drewN ?_ _) | (with_reducible refine Below.setCell ?_ ?_ _) | (with_reducible refine below_via ‹_› ?_ ?_) | (with_reducible refine below_grow ?_ ?_ _ _) | omega | (simp; done) | (simp; omega)))
  have hB1 : Below w.heap.size w W1 := by rw [hW1]; (repeat' (first | (with_reducible exact Below.refl _ _) | (with_reducible refine Below.alloc ?_ ?_ _) | (with_reducible refine Below.drew ?_) | (with_reducible refine below_drewN ?_ _) | (with_reducible refine Below.setCell ?_ ?_ _) | (with_reducible refine below_via ‹_› ?_ ?_) | (with_reducible refine below_grow ?_ ?_ _ _) | omega | (simp; done) | (simp; omega)))
  have hz1 : W1.heap.size = w1.heap.size + 1 := by rw [hW1]; simp
  have hA0 := hid (show Acc W1 w1.heap.size 2 1 encI W1 (.slice (some ⟨w1.heap.size, 0, none⟩) 0 0) ([] : List Int) from Acc.lit (α := Int) (W := W1) (w0 := w1) (e := 2) (by rw [hW1]; exact Below.refl _ _) 1 encI)
  have hP0 : Place W2 W1.heap.size x y := by rw [hW2]; exact ⟨by simp, by simp [go_sem], by simp [go_sem], fun j => by simp [go_sem]⟩
  have hB12 : Below W1.heap.size W1 W2 := by rw [hW2]; (repeat' (first | (with_reducible exact Below.refl _ _) | (with_reducible refine Below.alloc ?_ ?_ _) | (with_reducible refine Below.drew ?_) | (with_reducible refine below_drewN ?_ _) | (with_reducible refine Below.setCell ?_ ?_ _) | (with_reducible refine below_via ‹_› ?_ ?_) | (with_reducible refine below_grow ?_ ?_ _ _) | omega | (simp; done) | (simp; omega)))
  have hA1 := hid (hA0.out.below hB12)
  have hB2 : Below w.heap.size w W2 := by rw [hW2]; exact Below.alloc hB1 (by omega) _
  have q0 : w1.cell? ⟨w.heap.size, 0, none⟩ = some (.string s) := by simp [*, go_sem]
  have q1 : w1.cell? ⟨w.heap.size, 0 + 1, none⟩ = some (.int .i64 a) := by simp [*, go_sem]
  have q2 : w1.cell? ⟨w.heap.size, 2, none⟩ = some (.int .i64 b) := by simp [*, go_sem]
  have hB1w : Below w1.heap.size w1 W2 := by rw [hW2, hW1]; (repeat' (first | (with_reducible exact Below.refl _ _) | (with_reducible refine Below.alloc ?_ ?_ _) | (with_reducible refine Below.drew ?_) | (with_reducible refine below_drewN ?_ _) | (with_reducible refine Below.setCell ?_ ?_ _) | (with_reducible refine below_via ‹_› ?_ ?_) | (with_reducible refine below_grow ?_ ?_ _ _) | omega | (simp; done) | (simp; omega)))
  have S0 := hid (And.intro (below_cell hB1w (by omega) q1) (below_cell hB1w (by omega) q2))
  obtain ⟨pB, hpB⟩ : ∃ p, p = w1.heap.size + 1 := ⟨_, rfl⟩
  rw [show W1.heap.size = pB by omega] at hP0
  rw [← hpB]
  have HPB := hid (show pB = W1.heap.size by omega)
  have hpB2 : W1.heap.size ≤ pB := by omega
  have hpB4 : w1.heap.size < pB := by omega
  have hpB3 : w.heap.size + 2 ≤ w1.heap.size := by omega
  have hW1s : W1.heap.size ≤ w1.heap.size + 1 := by omega
  have hHB1 := hid hB1
  clear hpB hz1 hW1 hW2 hA0 hB1 hc hf hz hb q0 q1 q2 hB1w
  go_loopw [10, 12, 13] (fun q tt ll wr => ∃ (os : List Int) (px py n l : Int), tt = .int .i64 n ∧ ll = .int .i64 l ∧ Acc W1 w1.heap.size 2 1 encI wr q os ∧ (∀ b, q.ownBlock = some b → b ≠ pB) ∧ Place wr pB px py ∧ pointB px py = true ∧ 0 ≤ n ∧ n ≤ 4320 ∧ 0 ≤ l ∧ l ≤ 1000 ∧ GreedS a b x y t ws os px py n l ∧
      greedF a b x y ws t ws.length [] = greedF a b x y ws t (ws.length - os.length) os ∧ Below w.heap.size w wr ∧ Hid (wr.cell? ⟨w.heap.size, 0 + 1, none⟩ = some (.int .i64 a) ∧ wr.cell? ⟨w.heap.size, 2, none⟩ = some (.int .i64 b))) (fun q _ _ _ => ws.length - slLen q)
  case atStart => exact ⟨[], x, y, t, 0, rfl, rfl, hA1.out, fun b hb => by simp [Value.ownBlock] at hb; omega, hP0, hq2, by omega, by omega, by omega, by omega, GreedS.start (by omega), rfl, hB2, S0⟩
  case round =>
    clear hA1 hP0 hB12 hB2 S0
    obtain ⟨os, px, py, n, l, rfl, rfl, hA, hqb, hP, hpp, hn0, hn1, hl0, hl1, hG, hR, hB, hS0⟩ := hrel
    obtain ⟨wo, rfl⟩ : ∃ wo : World, wo = wr := ⟨_, rfl⟩
    have HA := hid hA; clear hA
    have HR := hid hR; clear hR
    have HQ := hid hqb; clear hqb
    have HP := hid hP
    have HG := hid hG
    have hzr := hB.size
    have hos : os.length ≤ ws.length := ord_len hG.ord hG.nodup
    have hwo : w.heap.size < wo.heap.size := by have := HP.out.1; omega
    have hsl : slLen u10 = os.length := by obtain ⟨_, _, e⟩ := (HA.out.slo fun _ => rfl).1.form; rw [e]; rfl
    have HSL := hid hsl
    have HBK := hid (show ∀ k : Nat, (bestK (endK a b x y ws t os) k) = bestK (nextE a b ws os px py n l) k from fun k => by rw [show endK a b x y ws t os = nextE a b ws os px py n l from funext fun k => HG.out.eq k])
    have HBD := hid (fun k (hk : k ≤ ws.length) => bestK_bd (f := nextE a b ws os px py n l) (n := k) fun j hj e he => nextE_bd hw (by omega) (by omega) he)
    have hSA : SlA wo 0 1 encI u10 os := (HA.out.slo fun _ => rfl).1.mono (Nat.zero_le _)
    clear hP hG hsl
    go_wp2
    go_loopw [14, 15, 16] (fun p e i wr => ∃ k : Nat, k ≤ ws.length ∧ i = .int .i64 k ∧ p = .int .i64 (bestK (nextE a b ws os px py n l) k).1 ∧ e = .int .i64 (bestK (nextE a b ws os px py n l) k).2 ∧ Below wo.heap.size wo wr) (fun _ _ i _ => ws.length - (intOf i).toNat)
    case atStart => exact ⟨0, Nat.zero_le _, rfl, rfl, rfl, Below.refl _ _⟩
    case round =>
      obtain ⟨k, hk, rfl, rfl, rfl, hBr⟩ := hrel
      have hbd := HBD.out k hk
      have hzr2 := hBr.size
      have hBw : Below w.heap.size w wr := hB.trans (hBr.mono hB.size)
      have hBr2 := hBr
      by_cases hlt : k < ws.length
      · have hlI : (k : Int) < ws.length := by omega
        obtain ⟨rfl, hbv, -, hcv, hmcv⟩ := hav (by omega)
        obtain ⟨hpt, l0, l1, m0, m1, f0, f1, u0, u1⟩ := HW.out k hlt
        have x3 := below_cell hBw hbv (HXV.out k hlt 3 (by omega))
        simp only [encWork, List.getD_cons_zero, List.getD_cons_succ] at x3
        have y2 := below_cell hBr (by omega) hS0.out.2
        have y1 := below_cell hBr (by omega) hS0.out.1
        have P := HP.out.below hBr
        obtain ⟨p0, p1, p2, p3⟩ := P
        have hwr : w.heap.size < wr.heap.size := by omega
        have r3 := cellr x3
        have r2 := cellr y2
        have hSr : SlA wr 0 1 encI u10 os := hSA.at hBr
        have hwl : IntKind.i64.wrap (l + ws[k].fLoad) = l + ws[k].fLoad := IntWalk.i64_in _ (by omega)
        have HN := hid (show nextE a b ws os px py n l k = if hasB os k then none else if l + ws[k].fLoad > b then none else if (mkC a px py n k ws[k]).fEnd ≤ ws[k].fUntil then some (mkC a px py n k ws[k]).fEnd else none by
          rw [nextE, wK_nat hlt, ldA_nat hlt])
        have hSw : SlA wr 0 7 encWork (.slice (some ⟨bv, ov, none⟩) ws.length cv) ws := H.at hBw
        cases hh : hasB os k
        · cases hld : decide (b < l + ws[k].fLoad)
          · have hld2 : ¬ l + ws[k].fLoad > b := by have := of_decide_eq_false hld; omega
            have cc := fun (wq : World) hbk q1 h => c_l25Call w.heap.size 0 a px py n (.slice (some ⟨bv, ov, none⟩) ws.length cv) ws k wq hbk q1 e1 e2 h hw hlt hpp hn0 hn1
            obtain ⟨C, hC⟩ : ∃ C, C = mkC a px py n k ws[k] := ⟨_, rfl⟩
            have HN2 := hid (show nextE a b ws os px py n l k = if C.fEnd ≤ ws[k].fUntil then some C.fEnd else none by rw [HN.out, hh, if_neg hld2, hC]; rfl)
            rw [← hC] at cc
            clear hC HN
            cases hq : decide (C.fEnd ≤ ws[k].fUntil)
            · have HE := hid (bestK_none (f := nextE a b ws os px py n l) (n := k) (by rw [HN2.out, if_neg (by simpa using hq)]))
              rw [hq] at cc
              go_wp2
              (refine wp_region_quiet_below (by kernel_rfl) (by kernel_rfl) ?_; (repeat (first | go_big_quiet_step ((first | (go_at_call 63; first | exact regrown_bool (c_l00Has _ _ _ _ (by first | (with_reducible assumption) | (with_reducible apply SlO.at; (with_reducible assumption); (repeat' (first | (with_reducible exact Below.refl _ _) | (with_reducible refine Below.alloc ?_ ?_ _) | (with_reducible refine Below.drew ?_) | (with_reducible refine below_drewN ?_ _) | (with_reducible refine Below.setCell ?_ ?_ _) | (with_reducible refine below_via ‹_› ?_ ?_) | (with_reducible refine below_grow ?_ ?_ _ _) | omega | (simp; done) | (simp; omega))); done) | (with_reducible apply SlA.at; (with_reducible assumption); (repeat' (first | (with_reducible exact Below.refl _ _) | (with_reducible refine Below.alloc ?_ ?_ _) | (with_reducible refine Below.drew ?_) | (with_reducible refine below_drewN ?_ _) | (with_reducible refine Below.setCell ?_ ?_ _) | (with_reducible refine below_via ‹_› ?_ ?_) | (with_reducible refine below_grow ?_ ?_ _ _) | omega | (simp; done) | (simp; omega))); done))) (by assumption) | exact regrown_of (c_l00Has _ _ _ _ (by first | (with_reducible assumption) | (with_reducible apply SlO.at; (with_reducible assumption); (repeat' (first | (with_reducible exact Below.refl _ _) | (with_reducible refine Below.alloc ?_ ?_ _) | (with_reducible refine Below.drew ?_) | (with_reducible refine below_drewN ?_ _) | (with_reducible refine Below.setCell ?_ ?_ _) | (with_reducible refine below_via ‹_› ?_ ?_) | (with_reducible refine below_grow ?_ ?_ _ _) | omega | (simp; done) | (simp; omega))); done) | (with_reducible apply SlA.at; (with_reducible assumption); (repeat' (first | (with_reducible exact Below.refl _ _) | (with_reducible refine Below.alloc ?_ ?_ _) | (with_reducible refine Below.drew ?_) | (with_reducible refine below_drewN ?_ _) | (with_reducible refine Below.setCell ?_ ?_ _) | (with_reducible refine below_via ‹_› ?_ ?_) | (with_reducible refine below_grow ?_ ?_ _ _) | omega | (simp; done) | (simp; omega))); done)))))) | quiet_step ((first | (go_at_call 63; first | exact regrown_bool (c_l00Has _ _ _ _ (by first | (with_reducible assumption) | (with_reducible apply SlO.at; (with_reducible assumption); (repeat' (first | (with_reducible exact Below.refl _ _) | (with_reducible refine Below.alloc ?_ ?_ _) | (with_reducible refine Below.drew ?_) | (with_reducible refine below_drewN ?_ _) | (with_reducible refine Below.setCell ?_ ?_ _) | (with_reducible refine below_via ‹_› ?_ ?_) | (with_reducible refine below_grow ?_ ?_ _ _) | omega | (simp; done) | (simp; omega))); done) | (with_reducible apply SlA.at; (with_reducible assumption); (repeat' (first | (with_reducible exact Below.refl _ _) | (with_reducible refine Below.alloc ?_ ?_ _) | (with_reducible refine Below.drew ?_) | (with_reducible refine below_drewN ?_ _) | (with_reducible refine Below.setCell ?_ ?_ _) | (with_reducible refine below_via ‹_› ?_ ?_) | (with_reducible refine below_grow ?_ ?_ _ _) | omega | (simp; done) | (simp; omega))); done))) (by assumption) | exact regrown_of (c_l00Has _ _ _ _ (by first | (with_reducible assumption) | (with_reducible apply SlO.at; (with_reducible assumption); (repeat' (first | (with_reducible exact Below.refl _ _) | (with_reducible refine Below.alloc ?_ ?_ _) | (with_reducible refine Below.drew ?_) | (with_reducible refine below_drewN ?_ _) | (with_reducible refine Below.setCell ?_ ?_ _) | (with_reducible refine below_via ‹_› ?_ ?_) | (with_reducible refine below_grow ?_ ?_ _ _) | omega | (simp; done) | (simp; omega))); done) | (with_reducible apply SlA.at; (with_reducible assumption); (repeat' (first | (with_reducible exact Below.refl _ _) | (with_reducible refine Below.alloc ?_ ?_ _) | (with_reducible refine Below.drew ?_) | (with_reducible refine below_drewN ?_ _) | (with_reducible refine Below.setCell ?_ ?_ _) | (with_reducible refine below_via ‹_› ?_ ?_) | (with_reducible refine below_grow ?_ ?_ _ _) | omega | (simp; done) | (simp; omega))); done)))))))); refine wpQuiet_nil ?_; intro w1 hw'; have hb := below_of_regrown hw'; clear hw'; obtain ⟨hc, hf⟩ := bcell hb; have hz := hb.size; (try simp at hz); (try have hz0 : ∀ b, b < w.heap.size → b < w1.heap.size := fun b h => by omega); (try have hz1 : w.heap.size < w1.heap.size := by omega); (try have hz2 : w.heap.size + 1 < w1.heap.size := by omega); (try have hz3 : w.heap.size + 2 < w1.heap.size := by omega))
              go_wp2_with (go_at_call 64; refine (cc _ (by first | omega | (simp; done) | (simp; omega)) (by first | assumption | (simp [*, go_sem]; done)) (by first | (with_reducible assumption) | (with_reducible apply SlO.at; (with_reducible assumption); (repeat' (first | (with_reducible exact Below.refl _ _) | (with_reducible refine Below.alloc ?_ ?_ _) | (with_reducible refine Below.drew ?_) | (with_reducible refine below_drewN ?_ _) | (with_reducible refine Below.setCell ?_ ?_ _) | (with_reducible refine below_via ‹_› ?_ ?_) | (with_reducible refine below_grow ?_ ?_ _ _) | omega | (simp; done) | (simp; omega))); done) | (with_reducible apply SlA.at; (with_reducible assumption); (repeat' (first | (with_reducible exact Below.refl _ _) | (with_reducible refine Below.alloc ?_ ?_ _) | (with_reducible refine Below.drew ?_) | (with_reducible refine below_drewN ?_ _) | (with_reducible refine Below.setCell ?_ ?_ _) | (with_reducible refine below_via ‹_› ?_ ?_) | (with_reducible refine below_grow ?_ ?_ _ _) | omega | (simp; done) | (simp; omega))); done))).mono ?_; rintro e w2 ⟨rfl, hb2⟩; have hz2 := hb2.size)
              go_roundw
              case rel => exact ⟨k + 1, by omega, by go_num, by rw [HE.out], by rw [HE.out], by (repeat' (first | (with_reducible exact Below.refl _ _) | (with_reducible refine Below.alloc ?_ ?_ _) | (with_reducible refine Below.drew ?_) | (with_reducible refine below_drewN ?_ _) | (with_reducible refine Below.setCell ?_ ?_ _) | (with_reducible refine below_via ‹_› ?_ ?_) | (with_reducible refine below_grow ?_ ?_ _ _) | omega | (simp; done) | (simp; omega)))⟩
              case measure => simp [intOf]; omega
            · have HF := hid (show nextE a b ws os px py n l k = some C.fEnd by rw [HN2.out, if_pos (by simpa using hq)])
              rw [hq] at cc
              go_wp2
              (refine wp_region_quiet_below (by kernel_rfl) (by kernel_rfl) ?_; (repeat (first | go_big_quiet_step ((first | (go_at_call 63; first | exact regrown_bool (c_l00Has _ _ _ _ (by first | (with_reducible assumption) | (with_reducible apply SlO.at; (with_reducible assumption); (repeat' (first | (with_reducible exact Below.refl _ _) | (with_reducible refine Below.alloc ?_ ?_ _) | (with_reducible refine Below.drew ?_) | (with_reducible refine below_drewN ?_ _) | (with_reducible refine Below.setCell ?_ ?_ _) | (with_reducible refine below_via ‹_› ?_ ?_) | (with_reducible refine below_grow ?_ ?_ _ _) | omega | (simp; done) | (simp; omega))); done) | (with_reducible apply SlA.at; (with_reducible assumption); (repeat' (first | (with_reducible exact Below.refl _ _) | (with_reducible refine Below.alloc ?_ ?_ _) | (with_reducible refine Below.drew ?_) | (with_reducible refine below_drewN ?_ _) | (with_reducible refine Below.setCell ?_ ?_ _) | (with_reducible refine below_via ‹_› ?_ ?_) | (with_reducible refine below_grow ?_ ?_ _ _) | omega | (simp; done) | (simp; omega))); done))) (by assumption) | exact regrown_of (c_l00Has _ _ _ _ (by first | (with_reducible assumption) | (with_reducible apply SlO.at; (with_reducible assumption); (repeat' (first | (with_reducible exact Below.refl _ _) | (with_reducible refine Below.alloc ?_ ?_ _) | (with_reducible refine Below.drew ?_) | (with_reducible refine below_drewN ?_ _) | (with_reducible refine Below.setCell ?_ ?_ _) | (with_reducible refine below_via ‹_› ?_ ?_) | (with_reducible refine below_grow ?_ ?_ _ _) | omega | (simp; done) | (simp; omega))); done) | (with_reducible apply SlA.at; (with_reducible assumption); (repeat' (first | (with_reducible exact Below.refl _ _) | (with_reducible refine Below.alloc ?_ ?_ _) | (with_reducible refine Below.drew ?_) | (with_reducible refine below_drewN ?_ _) | (with_reducible refine Below.setCell ?_ ?_ _) | (with_reducible refine below_via ‹_› ?_ ?_) | (with_reducible refine below_grow ?_ ?_ _ _) | omega | (simp; done) | (simp; omega))); done)))))) | quiet_step ((first | (go_at_call 63; first | exact regrown_bool (c_l00Has _ _ _ _ (by first | (with_reducible assumption) | (with_reducible apply SlO.at; (with_reducible assumption); (repeat' (first | (with_reducible exact Below.refl _ _) | (with_reducible refine Below.alloc ?_ ?_ _) | (with_reducible refine Below.drew ?_) | (with_reducible refine below_drewN ?_ _) | (with_reducible refine Below.setCell ?_ ?_ _) | (with_reducible refine below_via ‹_› ?_ ?_) | (with_reducible refine below_grow ?_ ?_ _ _) | omega | (simp; done) | (simp; omega))); done) | (with_reducible apply SlA.at; (with_reducible assumption); (repeat' (first | (with_reducible exact Below.refl _ _) | (with_reducible refine Below.alloc ?_ ?_ _) | (with_reducible refine Below.drew ?_) | (with_reducible refine below_drewN ?_ _) | (with_reducible refine Below.setCell ?_ ?_ _) | (with_reducible refine below_via ‹_› ?_ ?_) | (with_reducible refine below_grow ?_ ?_ _ _) | omega | (simp; done) | (simp; omega))); done))) (by assumption) | exact regrown_of (c_l00Has _ _ _ _ (by first | (with_reducible assumption) | (with_reducible apply SlO.at; (with_reducible assumption); (repeat' (first | (with_reducible exact Below.refl _ _) | (with_reducible refine Below.alloc ?_ ?_ _) | (with_reducible refine Below.drew ?_) | (with_reducible refine below_drewN ?_ _) | (with_reducible refine Below.setCell ?_ ?_ _) | (with_reducible refine below_via ‹_› ?_ ?_) | (with_reducible refine below_grow ?_ ?_ _ _) | omega | (simp; done) | (simp; omega))); done) | (with_reducible apply SlA.at; (with_reducible assumption); (repeat' (first | (with_reducible exact Below.refl _ _) | (with_reducible refine Below.alloc ?_ ?_ _) | (with_reducible refine Below.drew ?_) | (with_reducible refine below_drewN ?_ _) | (with_reducible refine Below.setCell ?_ ?_ _) | (with_reducible refine below_via ‹_› ?_ ?_) | (with_reducible refine below_grow ?_ ?_ _ _) | omega | (simp; done) | (simp; omega))); done)))))))); refine wpQuiet_nil ?_; intro w1 hw'; have hb := below_of_regrown hw'; clear hw'; obtain ⟨hc, hf⟩ := bcell hb; have hz := hb.size; (try simp at hz); (try have hz0 : ∀ b, b < w.heap.size → b < w1.heap.size := fun b h => by omega); (try have hz1 : w.heap.size < w1.heap.size := by omega); (try have hz2 : w.heap.size + 1 < w1.heap.size := by omega); (try have hz3 : w.heap.size + 2 < w1.heap.size := by omega))
              go_wp2_with (go_at_call 64; refine (cc _ (by first | omega | (simp; done) | (simp; omega)) (by first | assumption | (simp [*, go_sem]; done)) (by first | (with_reducible assumption) | (with_reducible apply SlO.at; (with_reducible assumption); (repeat' (first | (with_reducible exact Below.refl _ _) | (with_reducible refine Below.alloc ?_ ?_ _) | (with_reducible refine Below.drew ?_) | (with_reducible refine below_drewN ?_ _) | (with_reducible refine Below.setCell ?_ ?_ _) | (with_reducible refine below_via ‹_› ?_ ?_) | (with_reducible refine below_grow ?_ ?_ _ _) | omega | (simp; done) | (simp; omega))); done) | (with_reducible apply SlA.at; (with_reducible assumption); (repeat' (first | (with_reducible exact Below.refl _ _) | (with_reducible refine Below.alloc ?_ ?_ _) | (with_reducible refine Below.drew ?_) | (with_reducible refine below_drewN ?_ _) | (with_reducible refine Below.setCell ?_ ?_ _) | (with_reducible refine below_via ‹_› ?_ ?_) | (with_reducible refine below_grow ?_ ?_ _ _) | omega | (simp; done) | (simp; omega))); done))).mono ?_; rintro e w2 ⟨rfl, hb2⟩; have hz2 := hb2.size)
              all_goals
                go_roundw
                case rel => first
                  | exact ⟨k + 1, by omega, by go_num, by rw [bestK_new HF.out (by omega)], by rw [bestK_new HF.out (by omega)], by (repeat' (first | (with_reducible exact Below.refl _ _) | (with_reducible refine Below.alloc ?_ ?_ _) | (with_reducible refine Below.drew ?_) | (with_reducible refine below_drewN ?_ _) | (with_reducible refine Below.setCell ?_ ?_ _) | (with_reducible refine below_via ‹_› ?_ ?_) | (with_reducible refine below_grow ?_ ?_ _ _) | omega | (simp; done) | (simp; omega)))⟩
                  | exact ⟨k + 1, by omega, by go_num, by rw [bestK_old HF.out (by omega)], by rw [bestK_old HF.out (by omega)], by (repeat' (first | (with_reducible exact Below.refl _ _) | (with_reducible refine Below.alloc ?_ ?_ _) | (with_reducible refine Below.drew ?_) | (with_reducible refine below_drewN ?_ _) | (with_reducible refine Below.setCell ?_ ?_ _) | (with_reducible refine below_via ‹_› ?_ ?_) | (with_reducible refine below_grow ?_ ?_ _ _) | omega | (simp; done) | (simp; omega)))⟩
                case measure => simp [intOf]; omega
          · have HE := hid (bestK_none (f := nextE a b ws os px py n l) (n := k) (by rw [HN.out, hh]; have := of_decide_eq_true hld; simp [this]))
            go_wp2
            (refine wp_region_quiet_below (by kernel_rfl) (by kernel_rfl) ?_; (repeat (first | go_big_quiet_step ((first | (go_at_call 63; first | exact regrown_bool (c_l00Has _ _ _ _ (by first | (with_reducible assumption) | (with_reducible apply SlO.at; (with_reducible assumption); (repeat' (first | (with_reducible exact Below.refl _ _) | (with_reducible refine Below.alloc ?_ ?_ _) | (with_reducible refine Below.drew ?_) | (with_reducible refine below_drewN ?_ _) | (with_reducible refine Below.setCell ?_ ?_ _) | (with_reducible refine below_via ‹_› ?_ ?_) | (with_reducible refine below_grow ?_ ?_ _ _) | omega | (simp; done) | (simp; omega))); done) | (with_reducible apply SlA.at; (with_reducible assumption); (repeat' (first | (with_reducible exact Below.refl _ _) | (with_reducible refine Below.alloc ?_ ?_ _) | (with_reducible refine Below.drew ?_) | (with_reducible refine below_drewN ?_ _) | (with_reducible refine Below.setCell ?_ ?_ _) | (with_reducible refine below_via ‹_› ?_ ?_) | (with_reducible refine below_grow ?_ ?_ _ _) | omega | (simp; done) | (simp; omega))); done))) (by assumption) | exact regrown_of (c_l00Has _ _ _ _ (by first | (with_reducible assumption) | (with_reducible apply SlO.at; (with_reducible assumption); (repeat' (first | (with_reducible exact Below.refl _ _) | (with_reducible refine Below.alloc ?_ ?_ _) | (with_reducible refine Below.drew ?_) | (with_reducible refine below_drewN ?_ _) | (with_reducible refine Below.setCell ?_ ?_ _) | (with_reducible refine below_via ‹_› ?_ ?_) | (with_reducible refine below_grow ?_ ?_ _ _) | omega | (simp; done) | (simp; omega))); done) | (with_reducible apply SlA.at; (with_reducible assumption); (repeat' (first | (with_reducible exact Below.refl _ _) | (with_reducible refine Below.alloc ?_ ?_ _) | (with_reducible refine Below.drew ?_) | (with_reducible refine below_drewN ?_ _) | (with_reducible refine Below.setCell ?_ ?_ _) | (with_reducible refine below_via ‹_› ?_ ?_) | (with_reducible refine below_grow ?_ ?_ _ _) | omega | (simp; done) | (simp; omega))); done)))))) | quiet_step ((first | (go_at_call 63; first | exact regrown_bool (c_l00Has _ _ _ _ (by first | (with_reducible assumption) | (with_reducible apply SlO.at; (with_reducible assumption); (repeat' (first | (with_reducible exact Below.refl _ _) | (with_reducible refine Below.alloc ?_ ?_ _) | (with_reducible refine Below.drew ?_) | (with_reducible refine below_drewN ?_ _) | (with_reducible refine Below.setCell ?_ ?_ _) | (with_reducible refine below_via ‹_› ?_ ?_) | (with_reducible refine below_grow ?_ ?_ _ _) | omega | (simp; done) | (simp; omega))); done) | (with_reducible apply SlA.at; (with_reducible assumption); (repeat' (first | (with_reducible exact Below.refl _ _) | (with_reducible refine Below.alloc ?_ ?_ _) | (with_reducible refine Below.drew ?_) | (with_reducible refine below_drewN ?_ _) | (with_reducible refine Below.setCell ?_ ?_ _) | (with_reducible refine below_via ‹_› ?_ ?_) | (with_reducible refine below_grow ?_ ?_ _ _) | omega | (simp; done) | (simp; omega))); done))) (by assumption) | exact regrown_of (c_l00Has _ _ _ _ (by first | (with_reducible assumption) | (with_reducible apply SlO.at; (with_reducible assumption); (repeat' (first | (with_reducible exact Below.refl _ _) | (with_reducible refine Below.alloc ?_ ?_ _) | (with_reducible refine Below.drew ?_) | (with_reducible refine below_drewN ?_ _) | (with_reducible refine Below.setCell ?_ ?_ _) | (with_reducible refine below_via ‹_› ?_ ?_) | (with_reducible refine below_grow ?_ ?_ _ _) | omega | (simp; done) | (simp; omega))); done) | (with_reducible apply SlA.at; (with_reducible assumption); (repeat' (first | (with_reducible exact Below.refl _ _) | (with_reducible refine Below.alloc ?_ ?_ _) | (with_reducible refine Below.drew ?_) | (with_reducible refine below_drewN ?_ _) | (with_reducible refine Below.setCell ?_ ?_ _) | (with_reducible refine below_via ‹_› ?_ ?_) | (with_reducible refine below_grow ?_ ?_ _ _) | omega | (simp; done) | (simp; omega))); done)))))))); refine wpQuiet_nil ?_; intro w1 hw'; have hb := below_of_regrown hw'; clear hw'; obtain ⟨hc, hf⟩ := bcell hb; have hz := hb.size; (try simp at hz); (try have hz0 : ∀ b, b < w.heap.size → b < w1.heap.size := fun b h => by omega); (try have hz1 : w.heap.size < w1.heap.size := by omega); (try have hz2 : w.heap.size + 1 < w1.heap.size := by omega); (try have hz3 : w.heap.size + 2 < w1.heap.size := by omega))
            go_wp2
            go_roundw
            case rel => exact ⟨k + 1, by omega, by go_num, by rw [HE.out], by rw [HE.out], by (repeat' (first | (with_reducible exact Below.refl _ _) | (with_reducible refine Below.alloc ?_ ?_ _) | (with_reducible refine Below.drew ?_) | (with_reducible refine below_drewN ?_ _) | (with_reducible refine Below.setCell ?_ ?_ _) | (with_reducible refine below_via ‹_› ?_ ?_) | (with_reducible refine below_grow ?_ ?_ _ _) | omega | (simp; done) | (simp; omega)))⟩
            case measure => simp [intOf]; omega
        · have HE := hid (bestK_none (f := nextE a b ws os px py n l) (n := k) (by rw [HN.out, hh]; rfl))
          go_wp2
          (refine wp_region_quiet_below (by kernel_rfl) (by kernel_rfl) ?_; (repeat (first | go_big_quiet_step ((first | (go_at_call 63; first | exact regrown_bool (c_l00Has _ _ _ _ (by first | (with_reducible assumption) | (with_reducible apply SlO.at; (with_reducible assumption); (repeat' (first | (with_reducible exact Below.refl _ _) | (with_reducible refine Below.alloc ?_ ?_ _) | (with_reducible refine Below.drew ?_) | (with_reducible refine below_drewN ?_ _) | (with_reducible refine Below.setCell ?_ ?_ _) | (with_reducible refine below_via ‹_› ?_ ?_) | (with_reducible refine below_grow ?_ ?_ _ _) | omega | (simp; done) | (simp; omega))); done) | (with_reducible apply SlA.at; (with_reducible assumption); (repeat' (first | (with_reducible exact Below.refl _ _) | (with_reducible refine Below.alloc ?_ ?_ _) | (with_reducible refine Below.drew ?_) | (with_reducible refine below_drewN ?_ _) | (with_reducible refine Below.setCell ?_ ?_ _) | (with_reducible refine below_via ‹_› ?_ ?_) | (with_reducible refine below_grow ?_ ?_ _ _) | omega | (simp; done) | (simp; omega))); done))) (by assumption) | exact regrown_of (c_l00Has _ _ _ _ (by first | (with_reducible assumption) | (with_reducible apply SlO.at; (with_reducible assumption); (repeat' (first | (with_reducible exact Below.refl _ _) | (with_reducible refine Below.alloc ?_ ?_ _) | (with_reducible refine Below.drew ?_) | (with_reducible refine below_drewN ?_ _) | (with_reducible refine Below.setCell ?_ ?_ _) | (with_reducible refine below_via ‹_› ?_ ?_) | (with_reducible refine below_grow ?_ ?_ _ _) | omega | (simp; done) | (simp; omega))); done) | (with_reducible apply SlA.at; (with_reducible assumption); (repeat' (first | (with_reducible exact Below.refl _ _) | (with_reducible refine Below.alloc ?_ ?_ _) | (with_reducible refine Below.drew ?_) | (with_reducible refine below_drewN ?_ _) | (with_reducible refine Below.setCell ?_ ?_ _) | (with_reducible refine below_via ‹_› ?_ ?_) | (with_reducible refine below_grow ?_ ?_ _ _) | omega | (simp; done) | (simp; omega))); done)))))) | quiet_step ((first | (go_at_call 63; first | exact regrown_bool (c_l00Has _ _ _ _ (by first | (with_reducible assumption) | (with_reducible apply SlO.at; (with_reducible assumption); (repeat' (first | (with_reducible exact Below.refl _ _) | (with_reducible refine Below.alloc ?_ ?_ _) | (with_reducible refine Below.drew ?_) | (with_reducible refine below_drewN ?_ _) | (with_reducible refine Below.setCell ?_ ?_ _) | (with_reducible refine below_via ‹_› ?_ ?_) | (with_reducible refine below_grow ?_ ?_ _ _) | omega | (simp; done) | (simp; omega))); done) | (with_reducible apply SlA.at; (with_reducible assumption); (repeat' (first | (with_reducible exact Below.refl _ _) | (with_reducible refine Below.alloc ?_ ?_ _) | (with_reducible refine Below.drew ?_) | (with_reducible refine below_drewN ?_ _) | (with_reducible refine Below.setCell ?_ ?_ _) | (with_reducible refine below_via ‹_› ?_ ?_) | (with_reducible refine below_grow ?_ ?_ _ _) | omega | (simp; done) | (simp; omega))); done))) (by assumption) | exact regrown_of (c_l00Has _ _ _ _ (by first | (with_reducible assumption) | (with_reducible apply SlO.at; (with_reducible assumption); (repeat' (first | (with_reducible exact Below.refl _ _) | (with_reducible refine Below.alloc ?_ ?_ _) | (with_reducible refine Below.drew ?_) | (with_reducible refine below_drewN ?_ _) | (with_reducible refine Below.setCell ?_ ?_ _) | (with_reducible refine below_via ‹_› ?_ ?_) | (with_reducible refine below_grow ?_ ?_ _ _) | omega | (simp; done) | (simp; omega))); done) | (with_reducible apply SlA.at; (with_reducible assumption); (repeat' (first | (with_reducible exact Below.refl _ _) | (with_reducible refine Below.alloc ?_ ?_ _) | (with_reducible refine Below.drew ?_) | (with_reducible refine below_drewN ?_ _) | (with_reducible refine Below.setCell ?_ ?_ _) | (with_reducible refine below_via ‹_› ?_ ?_) | (with_reducible refine below_grow ?_ ?_ _ _) | omega | (simp; done) | (simp; omega))); done)))))))); refine wpQuiet_nil ?_; intro w1 hw'; have hb := below_of_regrown hw'; clear hw'; obtain ⟨hc, hf⟩ := bcell hb; have hz := hb.size; (try simp at hz); (try have hz0 : ∀ b, b < w.heap.size → b < w1.heap.size := fun b h => by omega); (try have hz1 : w.heap.size < w1.heap.size := by omega); (try have hz2 : w.heap.size + 1 < w1.heap.size := by omega); (try have hz3 : w.heap.size + 2 < w1.heap.size := by omega))
          go_wp2
          go_roundw
          case rel => exact ⟨k + 1, by omega, by go_num, by rw [HE.out], by rw [HE.out], by (repeat' (first | (with_reducible exact Below.refl _ _) | (with_reducible refine Below.alloc ?_ ?_ _) | (with_reducible refine Below.drew ?_) | (with_reducible refine below_drewN ?_ _) | (with_reducible refine Below.setCell ?_ ?_ _) | (with_reducible refine below_via ‹_› ?_ ?_) | (with_reducible refine below_grow ?_ ?_ _ _) | omega | (simp; done) | (simp; omega)))⟩
          case measure => simp [intOf]; omega
      · have e : k = ws.length := by omega
        subst e
        by_cases hneg : (bestK (nextE a b ws os px py n l) ws.length).1 < 0
        · have HE := hid (show grL s a b c x y ws t = os by
            rw [grL, if_pos HAK.out, HR.out, greedF_end (by rw [HBK.out]; exact hneg)])
          clear hlt
          go_wp2
          go_ret2
          have hd := (HA.out.below hBr).done (fun _ => rfl) hHB1.out (by omega)
          rw [HAK.out, HE.out]
          exact ⟨_, rfl, hd.1, hd.2⟩
        · have hbd2 := HBD.out ws.length (Nat.le_refl _)
          have hs := bestK_some (f := nextE a b ws os px py n l) ws.length (by omega)
          obtain ⟨j, hj⟩ : ∃ j : Nat, (bestK (nextE a b ws os px py n l) ws.length).1 = (j : Int) := ⟨(bestK (nextE a b ws os px py n l) ws.length).1.toNat, by omega⟩
          have HE := hid (greedF_step (n := ws.length - os.length - 1) (os := os) (a := a) (b := b) (x := x) (y := y) (t := t) (ws := ws) (by rw [HBK.out]; exact hneg))
          rw [HBK.out] at HE
          obtain ⟨E, hE⟩ : ∃ E, E = (bestK (nextE a b ws os px py n l) ws.length).2 := ⟨_, rfl⟩
          rw [← hE] at hs hbd2 ⊢
          rw [hj] at hs hbd2 HE ⊢
          have hjl : j < ws.length := by omega
          have hjI : (j : Int) < ws.length := by omega
          have HN := hid (HG.out.next (by omega) (by omega) hs.2)
          rw [wK_nat hjl, ldA_nat hjl] at HN
          obtain ⟨rfl, hbv, -, hcv, hmcv⟩ := hav (by omega)
          obtain ⟨hpt, l0, l1, m0, m1, f0, f1, u0, u1⟩ := HW.out j hjl
          have X1 := HXV.out j hjl 1 (by omega)
          have X2 := HXV.out j hjl 2 (by omega)
          have X3 := HXV.out j hjl 3 (by omega)
          simp only [encWork, List.getD_cons_zero, List.getD_cons_succ] at X1 X2 X3
          have HA3 := hid (HA.out.below hBr)
          have HP3 := hid (HP.out.below hBr)
          have hpr : pB < wr.heap.size := by have := HP3.out.1; omega
          have hnl := HN.out.full
          clear hj hE hneg hs hlt
          go_wp2_with (at_builtin; refine wpList_pushG (v := u10) rfl (.tmp 83) (.tmp 85) 29 rfl i0 (.int .i64 0) 8 Try.underlying29 hi iz0 iz1 iz2 rfl (by decide) (fun _ => rfl) (j : Int) rfl HA3.out (Below.refl _ _) 2 1 rfl (one_encI _) (by unfold maxLen; omega) (by omega) ?_; intro v4 w4 hA4 hgr4 hob4; have hB4 : Below w.heap.size w w4 := hHB1.out.trans (hA4.keep.mono (by omega)); have hA4' := hid hA4; clear hA4; have hP4 := (HP3.out.below (by (repeat' (first | (with_reducible exact Below.refl _ _) | (with_reducible refine Below.alloc ?_ ?_ _) | (with_reducible refine Below.drew ?_) | (with_reducible refine below_drewN ?_ _) | (with_reducible refine Below.setCell ?_ ?_ _) | (with_reducible refine below_via ‹_› ?_ ?_) | (with_reducible refine below_grow ?_ ?_ _ _) | omega | (simp; done) | (simp; omega))))).grown hgr4 (fun e => HQ.out pB e rfl); have hq4 := hid (own_ne hob4 HQ.out (by omega)); have HP4 := hid hP4; obtain ⟨s0, s1, s2, s3⟩ := hP4; have z1 := below_cell hB4 hbv X1; have z2 := below_cell hB4 hbv X2; have z3 := below_cell hB4 hbv X3; clear hob4)
          have hlen2 := ord_len HN.out.ord HN.out.nodup
          simp only [List.length_append, List.length_singleton] at hlen2
          have hne : ∀ b, u10.ownBlock = some b → b ≠ w.heap.size := fun b hb e => by
            have h1 := HA3.out.blk b hb
            have h2 := HPB.out
            omega
          have k1 := grown_cell (w0 := wr) (by (repeat' (first | (with_reducible exact Below.refl _ _) | (with_reducible refine Below.alloc ?_ ?_ _) | (with_reducible refine Below.drew ?_) | (with_reducible refine below_drewN ?_ _) | (with_reducible refine Below.setCell ?_ ?_ _) | (with_reducible refine below_via ‹_› ?_ ?_) | (with_reducible refine below_grow ?_ ?_ _ _) | omega | (simp; done) | (simp; omega)))) hgr4 (below_cell hBr (by omega) hS0.out.1) (fun e => hne _ e rfl)
          have k2 := grown_cell (w0 := wr) (by (repeat' (first | (with_reducible exact Below.refl _ _) | (with_reducible refine Below.alloc ?_ ?_ _) | (with_reducible refine Below.drew ?_) | (with_reducible refine below_drewN ?_ _) | (with_reducible refine Below.setCell ?_ ?_ _) | (with_reducible refine below_via ‹_› ?_ ?_) | (with_reducible refine below_grow ?_ ?_ _ _) | omega | (simp; done) | (simp; omega)))) hgr4 (below_cell hBr (by omega) hS0.out.2) (fun e => hne _ e rfl)
          go_roundw
          case rel => exact ⟨os ++ [(j : Int)], ws[j].fAtX, ws[j].fAtY, E, l + ws[j].fLoad, rfl, rfl, (hA4'.out.setOther ⟨pB, 0, none⟩ _ hq4.out hpB2).setOther ⟨pB, 1, none⟩ _ hq4.out hpB2, hq4.out, HP4.out.set, hpt, by omega, by omega, by omega, by omega, HN.out, by rw [HR.out, show ws.length - os.length = ws.length - os.length - 1 + 1 by omega, HE.out, List.length_append]; rfl, by (repeat' (first | (with_reducible exact Below.refl _ _) | (with_reducible refine Below.alloc ?_ ?_ _) | (with_reducible refine Below.drew ?_) | (with_reducible refine below_drewN ?_ _) | (with_reducible refine Below.setCell ?_ ?_ _) | (with_reducible refine below_via ‹_› ?_ ?_) | (with_reducible refine below_grow ?_ ?_ _ _) | omega | (simp; done) | (simp; omega))), hid ⟨cell_far (cell_far k1 (by omega)) (by omega), cell_far (cell_far k2 (by omega)) (by omega)⟩⟩
          case measure =>
            obtain ⟨_, _, ev⟩ := (hA4'.out.slo fun _ => rfl).1.form
            rw [HSL.out, ev]; simp [slLen]; omega
end Go.Proofs.Ytmolcfagmiecjaa
