/- The latest start of a voyage; both sides. -/
import Derived.Test.YtmolcfagmiecjaaVoyE
namespace Go.Proofs.Ytmolcfagmiecjaa
open Go.RowKit Go.Sort
set_option maxRecDepth 100000

theorem voyC_late {a b x y : Int} {ws : List WorkD} {os : List Int} (h : ldF ws os os.length ≤ b) (t : Int) : voyC a b x y ws os t = if okS a x y ws os t then 0 else 6 := by
  have h' : ¬ ldF ws os os.length > b := by omega
  rw [voyC, if_neg h', okS]
  cases callsF a ws os x y t <;> rfl
theorem voyC_full {a b x y : Int} {ws : List WorkD} {os : List Int} (h : b < ldF ws os os.length) (t : Int) : voyC a b x y ws os t = 5 := by
  rw [voyC, if_pos h]
theorem late_bad {s : ByteArray} {a b c x y : Int} {ws : List WorkD} {os : List Int} (h : ¬ askC s a b c x y ws os 0 = 0) : lateV s a b c x y ws os = 0 ∧ lateC s a b c x y ws os = askC s a b c x y ws os 0 := by
  unfold lateV lateC; rw [if_neg (fun k => h k.1), if_neg h]; exact ⟨rfl, rfl⟩
theorem late_full {s : ByteArray} {a b c x y : Int} {ws : List WorkD} {os : List Int} (h : askC s a b c x y ws os 0 = 0) (hb : b < ldF ws os os.length) : lateV s a b c x y ws os = 0 ∧ lateC s a b c x y ws os = 5 := by
  unfold lateV lateC; rw [if_neg (fun k => by omega), if_pos h, if_neg (by omega)]; exact ⟨rfl, rfl⟩
theorem late_ok {s : ByteArray} {a b c x y : Int} {ws : List WorkD} {os : List Int} (h : askC s a b c x y ws os 0 = 0) (hb : ldF ws os os.length ≤ b) {n : Int} (hn : downF (okS a x y ws os) 4320 = n) (h0 : 0 ≤ n) : lateV s a b c x y ws os = n ∧ lateC s a b c x y ws os = 0 := by
  unfold lateV lateC; rw [hn, if_pos ⟨h, hb, h0⟩, if_pos h, if_pos hb, if_pos h0]; exact ⟨rfl, rfl⟩
theorem late_none {s : ByteArray} {a b c x y : Int} {ws : List WorkD} {os : List Int} (h : askC s a b c x y ws os 0 = 0) (hb : ldF ws os os.length ≤ b) (hn : downF (okS a x y ws os) 4320 = -1) : lateV s a b c x y ws os = 0 ∧ lateC s a b c x y ws os = 6 := by
  unfold lateV lateC; rw [hn, if_neg (fun k => by omega), if_pos h, if_pos hb, if_neg (by omega)]; exact ⟨rfl, rfl⟩
theorem down_found {a x y : Int} {ws : List WorkD} {os : List Int} {n : Int} (h0 : 0 ≤ n) (h1 : n ≤ 4320) (h : okS a x y ws os n = true) (h2 : ∀ t : Int, n < t → t ≤ 4320 → okS a x y ws os t = false) : downF (okS a x y ws os) 4320 = n := downF_at 4320 n h0 (by omega) h fun t ht ht' => h2 t ht (by omega)
theorem ok_above {a x y : Int} {ws : List WorkD} {os : List Int} {n : Int} (h : okS a x y ws os n = false) : ∀ t : Int, n ≤ t → okS a x y ws os t = false := fun t ht => by
  cases hq : okS a x y ws os t
  · rfl
  · rw [okS_mono ht hq] at h; cases h
set_option maxHeartbeats 2000000 in
theorem c_impl_LatestStart (s : ByteArray) (a b c x y : Int) (v u : Value) (ws : List WorkD) (os : List Int) (w : World) (hs : s.size ≤ maxLen) (h : SlA w 0 7 encWork v ws) (hok : ∀ x ∈ ws, okWork x) (hu : SlA w 0 1 encI u os) (hl : os.length ≤ 1048576) :
    Calls Try.prog 25 #[.agg #[.string s, .int .i64 a, .int .i64 b, .int .i64 c], .agg #[.int .i64 x, .int .i64 y], v, u] w fun e w' => e = .returned (.tuple #[.int .i64 (lateV s a b c x y ws os), .int .i64 (lateC s a b c x y ws os)]) ∧ Below w.heap.size w w' := by
  by_cases h0 : askC s a b c x y ws os 0 = 0
  · obtain ⟨e1, e2, e3, e4, e5, e6, e7⟩ := askC_ship h0
    have H0 := hid h0
    go_enter Try.func25, Try.ntmps25
    go_wp2_with (first | (go_at_call 65; refine (c_voyageCode _ _ _ _ _ _ _ _ _ _ _ _ (by assumption) (by first | (with_reducible assumption) | (with_reducible apply SlO.at; (with_reducible assumption); (repeat' (first | (with_reducible exact Below.refl _ _) | (with_reducible refine Below.alloc ?_ ?_ _) | (with_reducible refine Below.drew ?_) | (with_reducible refine below_drewN ?_ _) | (with_reducible refine Below.setCell ?_ ?_ _) | (with_reducible refine below_via ‹_› ?_ ?_) | (with_reducible refine below_grow ?_ ?_ _ _) | omega | (simp; done) | (simp; omega))); done) | (with_reducible apply SlA.at; (with_reducible assumption); (repeat' (first | (with_reducible exact Below.refl _ _) | (with_reducible refine Below.alloc ?_ ?_ _) | (with_reducible refine Below.drew ?_) | (with_reducible refine below_drewN ?_ _) | (with_reducible refine Below.setCell ?_ ?_ _) | (with_reducible refine below_via ‹_› ?_ ?_) | (with_reducible refine below_grow ?_ ?_ _ _) | omega | (simp; done) | (simp; omega))); done)) (by assumption) (by first | (with_reducible assumption) | (with_reducible apply SlO.at; (with_reducible assumption); (repeat' (first | (with_reducible exact Below.refl _ _) | (with_reducible refine Below.alloc ?_ ?_ _) | (with_reducible refine Below.drew ?_) | (with_reducible refine below_drewN ?_ _) | (with_reducible refine Below.setCell ?_ ?_ _) | (with_reducible refine below_via ‹_› ?_ ?_) | (with_reducible refine below_grow ?_ ?_ _ _) | omega | (simp; done) | (simp; omega))); done) | (with_reducible apply SlA.at; (with_reducible assumption); (repeat' (first | (with_reducible exact Below.refl _ _) | (with_reducible refine Below.alloc ?_ ?_ _) | (with_reducible refine Below.drew ?_) | (with_reducible refine below_drewN ?_ _) | (with_reducible refine Below.setCell ?_ ?_ _) | (with_reducible refine below_via ‹_› ?_ ?_) | (with_reducible refine below_grow ?_ ?_ _ _) | omega | (simp; done) | (simp; omega))); done))).mono ?_; rintro e w1 ⟨rfl, hb⟩; obtain ⟨hc, hf⟩ := bcell hb; have hz := hb.size; (try simp at hz); (try have hz0 : ∀ b, b < w.heap.size → b < w1.heap.size := fun b h => by omega); (try have hz1 : w.heap.size < w1.heap.size := by omega); (try have hz2 : w.heap.size + 1 < w1.heap.size := by omega); (try have hz3 : w.heap.size + 2 < w1.heap.size := by omega); rw [H0.out]))
    have hB1 : Below w.heap.size w w1 := by (repeat' (first | (with_reducible exact Below.refl _ _) | (with_reducible refine Below.alloc ?_ ?_ _) | (with_reducible refine Below.drew ?_) | (with_reducible refine below_drewN ?_ _) | (with_reducible refine Below.setCell ?_ ?_ _) | (with_reducible refine below_via ‹_› ?_ ?_) | (with_reducible refine below_grow ?_ ?_ _ _) | omega | (simp; done) | (simp; omega)))
    have z0 : w1.cell? ⟨w.heap.size, 0, none⟩ = some (.string s) := by simp [*, go_sem]
    have z1 : w1.cell? ⟨w.heap.size, 1, none⟩ = some (.int .i64 a) := by simp [*, go_sem]
    have z2 : w1.cell? ⟨w.heap.size, 2, none⟩ = some (.int .i64 b) := by simp [*, go_sem]
    have z3 : w1.cell? ⟨w.heap.size, 3, none⟩ = some (.int .i64 c) := by simp [*, go_sem]
    have z4 : w1.cell? ⟨w.heap.size + 1, 0, none⟩ = some (.int .i64 x) := by simp [*, go_sem]
    have z5 : w1.cell? ⟨w.heap.size + 1, 1, none⟩ = some (.int .i64 y) := by simp [*, go_sem]
    have hz9 : w.heap.size + 1 < w1.heap.size := hz2
    have h9 : SlA w1 0 7 encWork v ws := (by first | (with_reducible assumption) | (with_reducible apply SlO.at; (with_reducible assumption); (repeat' (first | (with_reducible exact Below.refl _ _) | (with_reducible refine Below.alloc ?_ ?_ _) | (with_reducible refine Below.drew ?_) | (with_reducible refine below_drewN ?_ _) | (with_reducible refine Below.setCell ?_ ?_ _) | (with_reducible refine below_via ‹_› ?_ ?_) | (with_reducible refine below_grow ?_ ?_ _ _) | omega | (simp; done) | (simp; omega))); done) | (with_reducible apply SlA.at; (with_reducible assumption); (repeat' (first | (with_reducible exact Below.refl _ _) | (with_reducible refine Below.alloc ?_ ?_ _) | (with_reducible refine Below.drew ?_) | (with_reducible refine below_drewN ?_ _) | (with_reducible refine Below.setCell ?_ ?_ _) | (with_reducible refine below_via ‹_› ?_ ?_) | (with_reducible refine below_grow ?_ ?_ _ _) | omega | (simp; done) | (simp; omega))); done))
    have hu9 : SlA w1 0 1 encI u os := (by first | (with_reducible assumption) | (with_reducible apply SlO.at; (with_reducible assumption); (repeat' (first | (with_reducible exact Below.refl _ _) | (with_reducible refine Below.alloc ?_ ?_ _) | (with_reducible refine Below.drew ?_) | (with_reducible refine below_drewN ?_ _) | (with_reducible refine Below.setCell ?_ ?_ _) | (with_reducible refine below_via ‹_› ?_ ?_) | (with_reducible refine below_grow ?_ ?_ _ _) | omega | (simp; done) | (simp; omega))); done) | (with_reducible apply SlA.at; (with_reducible assumption); (repeat' (first | (with_reducible exact Below.refl _ _) | (with_reducible refine Below.alloc ?_ ?_ _) | (with_reducible refine Below.drew ?_) | (with_reducible refine below_drewN ?_ _) | (with_reducible refine Below.setCell ?_ ?_ _) | (with_reducible refine below_via ‹_› ?_ ?_) | (with_reducible refine below_grow ?_ ?_ _ _) | omega | (simp; done) | (simp; omega))); done))
    clear hc hf hb hz h hu
    obtain ⟨wo, rfl⟩ : ∃ wo : World, wo = w1 := ⟨_, rfl⟩
    go_loopw [11] (fun i wr => ∃ n : Nat, n ≤ 4320 ∧ i = .int .i64 n ∧ (∀ t : Int, n < t → t ≤ 4320 → ldF ws os os.length ≤ b → okS a x y ws os t = false) ∧ Below wo.heap.size wo wr) (fun i _ => (intOf i).toNat)
    case atStart => exact ⟨4320, by omega, rfl, fun t h1 h2 => by omega, Below.refl _ _⟩
    case round =>
      obtain ⟨n, hn, rfl, hno, hB⟩ := hrel
      have HN := hid hno; clear hno
      have hzr := hB.size
      have y0 := below_cell hB (by omega) z0
      have y1 := below_cell hB (by omega) z1
      have y2 := below_cell hB (by omega) z2
      have y3 := below_cell hB (by omega) z3
      have y4 := below_cell hB (by omega) z4
      have y5 := below_cell hB (by omega) z5
      have h8 : SlA wr 0 7 encWork v ws := h9.at hB
      have hu8 : SlA wr 0 1 encI u os := hu9.at hB
      have cv := fun (wq : World) h hu => c_voyage s a b c x y (n : Int) v u ws os wq e1 e2 h e4 hu e7 hl e3 (by omega) (by omega)
      have HK := hid (And.intro z0 (And.intro z1 (And.intro z2 (And.intro z3 (And.intro z4 (And.intro z5 (And.intro h9 hu9)))))))
      clear z0 z1 z2 z3 z4 z5 h9 hu9
      by_cases hld : b < ldF ws os os.length
      · rw [voyC_full hld] at cv
        have HL := hid (late_full H0.out hld)
        clear hld h0
        go_wp2_with (go_at_call 66; refine (cv _ h8 hu8).mono ?_; rintro e w2 ⟨r, rfl, hb2, hS⟩)
        go_ret2
        exact ⟨by rw [HL.out.1, HL.out.2]; rfl, by (repeat' (first | (with_reducible exact Below.refl _ _) | (with_reducible refine Below.alloc ?_ ?_ _) | (with_reducible refine Below.drew ?_) | (with_reducible refine below_drewN ?_ _) | (with_reducible refine Below.setCell ?_ ?_ _) | (with_reducible refine below_via ‹_› ?_ ?_) | (with_reducible refine below_grow ?_ ?_ _ _) | omega | (simp; done) | (simp; omega)))⟩
      · have hld' : ldF ws os os.length ≤ b := by omega
        rw [voyC_late hld'] at cv
        cases hq : okS a x y ws os n
        · rw [hq] at cv
          by_cases hn0 : n = 0
          · subst hn0
            have HL := hid (late_none (s := s) (c := c) H0.out hld' (downF_none 4320 fun t h1 h2 => ok_above hq t (by omega)))
            clear hld hld' hq h0
            go_wp2_with (go_at_call 66; refine (cv _ h8 hu8).mono ?_; rintro e w2 ⟨r, rfl, hb2, hS⟩)
            go_ret2
            exact ⟨by rw [HL.out.1, HL.out.2]; rfl, by (repeat' (first | (with_reducible exact Below.refl _ _) | (with_reducible refine Below.alloc ?_ ?_ _) | (with_reducible refine Below.drew ?_) | (with_reducible refine below_drewN ?_ _) | (with_reducible refine Below.setCell ?_ ?_ _) | (with_reducible refine below_via ‹_› ?_ ?_) | (with_reducible refine below_grow ?_ ?_ _ _) | omega | (simp; done) | (simp; omega)))⟩
          · have hnz : ((n : Int) == 0) = false := by rw [beq_eq_false_iff_ne]; omega
            have hnp : (0 : Int) < n := by omega
            have HQ := hid hq
            clear hld hld' hq h0
            go_wp2_with (go_at_call 66; refine (cv _ h8 hu8).mono ?_; rintro e w2 ⟨r, rfl, hb2, hS⟩)
            go_roundw
            case rel => exact ⟨n - 1, by omega, by congr 1; omega, fun t h1 h2 h3 => ok_above HQ.out t (by omega), by (repeat' (first | (with_reducible exact Below.refl _ _) | (with_reducible refine Below.alloc ?_ ?_ _) | (with_reducible refine Below.drew ?_) | (with_reducible refine below_drewN ?_ _) | (with_reducible refine Below.setCell ?_ ?_ _) | (with_reducible refine below_via ‹_› ?_ ?_) | (with_reducible refine below_grow ?_ ?_ _ _) | omega | (simp; done) | (simp; omega)))⟩
            case measure => simp [intOf]; omega
        · rw [hq] at cv
          have HL := hid (late_ok (s := s) (c := c) H0.out hld' (down_found (by omega) (by omega) hq fun t h1 h2 => HN.out t h1 h2 hld') (by omega))
          clear hld hld' hq h0
          go_wp2_with (go_at_call 66; refine (cv _ h8 hu8).mono ?_; rintro e w2 ⟨r, rfl, hb2, hS⟩)
          go_ret2
          exact ⟨by rw [HL.out.1, HL.out.2]; rfl, by (repeat' (first | (with_reducible exact Below.refl _ _) | (with_reducible refine Below.alloc ?_ ?_ _) | (with_reducible refine Below.drew ?_) | (with_reducible refine below_drewN ?_ _) | (with_reducible refine Below.setCell ?_ ?_ _) | (with_reducible refine below_via ‹_› ?_ ?_) | (with_reducible refine below_grow ?_ ?_ _ _) | omega | (simp; done) | (simp; omega)))⟩
  · have hne : (askC s a b c x y ws os 0 != 0) = true := by simpa using h0
    have HL := hid (late_bad h0)
    clear h0
    go_enter Try.func25, Try.ntmps25
    go_wp2_with (first | (go_at_call 65; refine (c_voyageCode _ _ _ _ _ _ _ _ _ _ _ _ (by assumption) (by first | (with_reducible assumption) | (with_reducible apply SlO.at; (with_reducible assumption); (repeat' (first | (with_reducible exact Below.refl _ _) | (with_reducible refine Below.alloc ?_ ?_ _) | (with_reducible refine Below.drew ?_) | (with_reducible refine below_drewN ?_ _) | (with_reducible refine Below.setCell ?_ ?_ _) | (with_reducible refine below_via ‹_› ?_ ?_) | (with_reducible refine below_grow ?_ ?_ _ _) | omega | (simp; done) | (simp; omega))); done) | (with_reducible apply SlA.at; (with_reducible assumption); (repeat' (first | (with_reducible exact Below.refl _ _) | (with_reducible refine Below.alloc ?_ ?_ _) | (with_reducible refine Below.drew ?_) | (with_reducible refine below_drewN ?_ _) | (with_reducible refine Below.setCell ?_ ?_ _) | (with_reducible refine below_via ‹_› ?_ ?_) | (with_reducible refine below_grow ?_ ?_ _ _) | omega | (simp; done) | (simp; omega))); done)) (by assumption) (by first | (with_reducible assumption) | (with_reducible apply SlO.at; (with_reducible assumption); (repeat' (first | (with_reducible exact Below.refl _ _) | (with_reducible refine Below.alloc ?_ ?_ _) | (with_reducible refine Below.drew ?_) | (with_reducible refine below_drewN ?_ _) | (with_reducible refine Below.setCell ?_ ?_ _) | (with_reducible refine below_via ‹_› ?_ ?_) | (with_reducible refine below_grow ?_ ?_ _ _) | omega | (simp; done) | (simp; omega))); done) | (with_reducible apply SlA.at; (with_reducible assumption); (repeat' (first | (with_reducible exact Below.refl _ _) | (with_reducible refine Below.alloc ?_ ?_ _) | (with_reducible refine Below.drew ?_) | (with_reducible refine below_drewN ?_ _) | (with_reducible refine Below.setCell ?_ ?_ _) | (with_reducible refine below_via ‹_› ?_ ?_) | (with_reducible refine below_grow ?_ ?_ _ _) | omega | (simp; done) | (simp; omega))); done))).mono ?_; rintro e w1 ⟨rfl, hb⟩; obtain ⟨hc, hf⟩ := bcell hb; have hz := hb.size; (try simp at hz); (try have hz0 : ∀ b, b < w.heap.size → b < w1.heap.size := fun b h => by omega); (try have hz1 : w.heap.size < w1.heap.size := by omega); (try have hz2 : w.heap.size + 1 < w1.heap.size := by omega); (try have hz3 : w.heap.size + 2 < w1.heap.size := by omega)))
    go_ret2
    exact ⟨by rw [HL.out.1, HL.out.2]; rfl, by (repeat' (first | (with_reducible exact Below.refl _ _) | (with_reducible refine Below.alloc ?_ ?_ _) | (with_reducible refine Below.drew ?_) | (with_reducible refine below_drewN ?_ _) | (with_reducible refine Below.setCell ?_ ?_ _) | (with_reducible refine below_via ‹_› ?_ ?_) | (with_reducible refine below_grow ?_ ?_ _ _) | omega | (simp; done) | (simp; omega)))⟩
theorem lateF_bad {s : ByteArray} {a b c x y : Int} {ws : List WorkD} {os : List Int} (h : ¬ askF s a b c x y ws os 0 = 0) : lateV s a b c x y ws os = 0 ∧ lateC s a b c x y ws os = askF s a b c x y ws os 0 := by
  by_cases h1 : askC s a b c x y ws os 0 = 0
  · unfold askF at h ⊢
    rw [if_pos h1] at h ⊢
    by_cases h2 : ldF ws os os.length > b
    · rw [if_pos h2]; exact late_full h1 h2
    · rw [if_neg h2] at h; exact absurd rfl h
  · unfold askF; rw [if_neg h1]; exact late_bad h1
set_option maxHeartbeats 2000000 in
theorem c_spec_LatestStart (s : ByteArray) (a b c x y : Int) (v u : Value) (ws : List WorkD) (os : List Int) (w : World) (hs : s.size ≤ maxLen) (h : SlA w 0 7 encWork v ws) (hok : ∀ x ∈ ws, okWork x) (hu : SlA w 0 1 encI u os) (hl : os.length ≤ 1048576) :
    Calls Try.prog 47 #[.agg #[.string s, .int .i64 a, .int .i64 b, .int .i64 c], .agg #[.int .i64 x, .int .i64 y], v, u] w fun e w' => e = .returned (.tuple #[.int .i64 (lateV s a b c x y ws os), .int .i64 (lateC s a b c x y ws os)]) ∧ Below w.heap.size w w' := by
  by_cases h0 : askF s a b c x y ws os 0 = 0
  · obtain ⟨hA, hld⟩ := askF_zero h0
    obtain ⟨e1, e2, e3, e4, e5, e6, e7⟩ := askC_ship hA
    have H0 := hid h0
    have HA := hid hA
    have HLD := hid hld
    clear h0 hA hld
    go_enter Try.func47, Try.ntmps47
    go_wp2_with (first | (go_at_call 86; refine (c_l25Ask _ _ s a b c _ _ _ _ _ _ _ _ (by first | omega | (simp; done) | (simp; omega)) (by assumption) (by first | assumption | (simp [*, go_sem]; done)) (by first | assumption | (simp [*, go_sem]; done)) (by first | assumption | (simp [*, go_sem]; done)) (by first | assumption | (simp [*, go_sem]; done)) (by first | (with_reducible assumption) | (with_reducible apply SlO.at; (with_reducible assumption); (repeat' (first | (with_reducible exact Below.refl _ _) | (with_reducible refine Below.alloc ?_ ?_ _) | (with_reducible refine Below.drew ?_) | (with_reducible refine below_drewN ?_ _) | (with_reducible refine Below.setCell ?_ ?_ _) | (with_reducible refine below_via ‹_› ?_ ?_) | (with_reducible refine below_grow ?_ ?_ _ _) | omega | (simp; done) | (simp; omega))); done) | (with_reducible apply SlA.at; (with_reducible assumption); (repeat' (first | (with_reducible exact Below.refl _ _) | (with_reducible refine Below.alloc ?_ ?_ _) | (with_reducible refine Below.drew ?_) | (with_reducible refine below_drewN ?_ _) | (with_reducible refine Below.setCell ?_ ?_ _) | (with_reducible refine below_via ‹_› ?_ ?_) | (with_reducible refine below_grow ?_ ?_ _ _) | omega | (simp; done) | (simp; omega))); done)) (by assumption) (by first | (with_reducible assumption) | (with_reducible apply SlO.at; (with_reducible assumption); (repeat' (first | (with_reducible exact Below.refl _ _) | (with_reducible refine Below.alloc ?_ ?_ _) | (with_reducible refine Below.drew ?_) | (with_reducible refine below_drewN ?_ _) | (with_reducible refine Below.setCell ?_ ?_ _) | (with_reducible refine below_via ‹_› ?_ ?_) | (with_reducible refine below_grow ?_ ?_ _ _) | omega | (simp; done) | (simp; omega))); done) | (with_reducible apply SlA.at; (with_reducible assumption); (repeat' (first | (with_reducible exact Below.refl _ _) | (with_reducible refine Below.alloc ?_ ?_ _) | (with_reducible refine Below.drew ?_) | (with_reducible refine below_drewN ?_ _) | (with_reducible refine Below.setCell ?_ ?_ _) | (with_reducible refine below_via ‹_› ?_ ?_) | (with_reducible refine below_grow ?_ ?_ _ _) | omega | (simp; done) | (simp; omega))); done)) (by omega)).mono ?_; rintro e w1 ⟨rfl, hb⟩; obtain ⟨hc, hf⟩ := bcell hb; have hz := hb.size; (try simp at hz); (try have hz0 : ∀ b, b < w.heap.size → b < w1.heap.size := fun b h => by omega); (try have hz1 : w.heap.size < w1.heap.size := by omega); (try have hz2 : w.heap.size + 1 < w1.heap.size := by omega); (try have hz3 : w.heap.size + 2 < w1.heap.size := by omega); rw [H0.out]))
    have hB1 : Below w.heap.size w w1 := by (repeat' (first | (with_reducible exact Below.refl _ _) | (with_reducible refine Below.alloc ?_ ?_ _) | (with_reducible refine Below.drew ?_) | (with_reducible refine below_drewN ?_ _) | (with_reducible refine Below.setCell ?_ ?_ _) | (with_reducible refine below_via ‹_› ?_ ?_) | (with_reducible refine below_grow ?_ ?_ _ _) | omega | (simp; done) | (simp; omega)))
    have z1 : w1.cell? ⟨w.heap.size, 0 + 1, none⟩ = some (.int .i64 a) := by simp [*, go_sem]
    have z4 : w1.cell? ⟨w.heap.size + 1, 0, none⟩ = some (.int .i64 x) := by simp [*, go_sem]
    have z5 : w1.cell? ⟨w.heap.size + 1, 1, none⟩ = some (.int .i64 y) := by simp [*, go_sem]
    have hz9 : w.heap.size + 1 < w1.heap.size := hz2
    have h9 : SlA w1 0 7 encWork v ws := (by first | (with_reducible assumption) | (with_reducible apply SlO.at; (with_reducible assumption); (repeat' (first | (with_reducible exact Below.refl _ _) | (with_reducible refine Below.alloc ?_ ?_ _) | (with_reducible refine Below.drew ?_) | (with_reducible refine below_drewN ?_ _) | (with_reducible refine Below.setCell ?_ ?_ _) | (with_reducible refine below_via ‹_› ?_ ?_) | (with_reducible refine below_grow ?_ ?_ _ _) | omega | (simp; done) | (simp; omega))); done) | (with_reducible apply SlA.at; (with_reducible assumption); (repeat' (first | (with_reducible exact Below.refl _ _) | (with_reducible refine Below.alloc ?_ ?_ _) | (with_reducible refine Below.drew ?_) | (with_reducible refine below_drewN ?_ _) | (with_reducible refine Below.setCell ?_ ?_ _) | (with_reducible refine below_via ‹_› ?_ ?_) | (with_reducible refine below_grow ?_ ?_ _ _) | omega | (simp; done) | (simp; omega))); done))
    have hu9 : SlA w1 0 1 encI u os := (by first | (with_reducible assumption) | (with_reducible apply SlO.at; (with_reducible assumption); (repeat' (first | (with_reducible exact Below.refl _ _) | (with_reducible refine Below.alloc ?_ ?_ _) | (with_reducible refine Below.drew ?_) | (with_reducible refine below_drewN ?_ _) | (with_reducible refine Below.setCell ?_ ?_ _) | (with_reducible refine below_via ‹_› ?_ ?_) | (with_reducible refine below_grow ?_ ?_ _ _) | omega | (simp; done) | (simp; omega))); done) | (with_reducible apply SlA.at; (with_reducible assumption); (repeat' (first | (with_reducible exact Below.refl _ _) | (with_reducible refine Below.alloc ?_ ?_ _) | (with_reducible refine Below.drew ?_) | (with_reducible refine below_drewN ?_ _) | (with_reducible refine Below.setCell ?_ ?_ _) | (with_reducible refine below_via ‹_› ?_ ?_) | (with_reducible refine below_grow ?_ ?_ _ _) | omega | (simp; done) | (simp; omega))); done))
    clear hc hf hb hz h hu
    obtain ⟨wo, rfl⟩ : ∃ wo : World, wo = w1 := ⟨_, rfl⟩
    go_loopw [11, 12] (fun p q wr => ∃ lo hi : Int, -1 ≤ lo ∧ lo < hi ∧ hi ≤ 4321 ∧ p = .int .i64 lo ∧ q = .int .i64 hi ∧ (0 ≤ lo → okS a x y ws os lo = true) ∧ (hi ≤ 4320 → okS a x y ws os hi = false) ∧ Below wo.heap.size wo wr) (fun p q _ => (intOf q - intOf p).toNat)
    case atStart => exact ⟨-1, 4321, by omega, by omega, by omega, rfl, rfl, fun h => by omega, fun h => by omega, Below.refl _ _⟩
    case round =>
      obtain ⟨lo, hi, l0, l1, l2, rfl, rfl, hlo, hhi, hB⟩ := hrel
      have HLO := hid hlo
      have HHI := hid hhi
      clear hlo hhi
      have hzr := hB.size
      have y1 := below_cell hB (by omega) z1
      have y4 := below_cell hB (by omega) z4
      have y5 := below_cell hB (by omega) z5
      have h8 : SlA wr 0 7 encWork v ws := h9.at hB
      have hu8 : SlA wr 0 1 encI u os := hu9.at hB
      have HK := hid (And.intro z1 (And.intro z4 (And.intro z5 (And.intro h9 hu9))))
      clear z1 z4 z5 h9 hu9
      by_cases hlt : 1 < hi - lo
      · obtain ⟨m, hm⟩ : ∃ m : Int, (lo + hi) / 2 = m := ⟨_, rfl⟩
        have hm0 : 0 ≤ m := by omega
        have hm1 : m ≤ 4320 := by omega
        have hm2 : lo < m := by omega
        have hm3 : m < hi := by omega
        have hmt : (lo + hi).tdiv 2 = m := by rw [Int.tdiv_eq_ediv_of_nonneg (by omega)]; exact hm
        have hml : 0 ≤ lo + hi := by omega
        have cv := fun (wq : World) hbk q1 h hu => c_l25Calls w.heap.size 0 a x y m v u ws os wq hbk q1 e1 e2 h e4 hu e7 hl e3 hm0 hm1
        cases hq : okS a x y ws os m
        · have HQ := hid hq
          have HQ2 := hid (show (callsF a ws os x y m).isSome = okS a x y ws os m from rfl)
          clear hq
          go_wp2_with (go_at_call 87; refine (cv _ (by first | omega | (simp; done) | (simp; omega)) y1 h8 hu8).mono ?_; rintro e w2 ⟨r, rfl, hb2, hS⟩; rw [HQ2.out, HQ.out])
          go_roundw
          case rel => exact ⟨lo, m, l0, hm2, by omega, rfl, rfl, HLO.out, fun _ => HQ.out, by (repeat' (first | (with_reducible exact Below.refl _ _) | (with_reducible refine Below.alloc ?_ ?_ _) | (with_reducible refine Below.drew ?_) | (with_reducible refine below_drewN ?_ _) | (with_reducible refine Below.setCell ?_ ?_ _) | (with_reducible refine below_via ‹_› ?_ ?_) | (with_reducible refine below_grow ?_ ?_ _ _) | omega | (simp; done) | (simp; omega)))⟩
          case measure => simp [intOf]; omega
        · have HQ := hid hq
          have HQ2 := hid (show (callsF a ws os x y m).isSome = okS a x y ws os m from rfl)
          clear hq
          go_wp2_with (go_at_call 87; refine (cv _ (by first | omega | (simp; done) | (simp; omega)) y1 h8 hu8).mono ?_; rintro e w2 ⟨r, rfl, hb2, hS⟩; rw [HQ2.out, HQ.out])
          go_roundw
          case rel => exact ⟨m, hi, by omega, hm3, l2, rfl, rfl, fun _ => HQ.out, HHI.out, by (repeat' (first | (with_reducible exact Below.refl _ _) | (with_reducible refine Below.alloc ?_ ?_ _) | (with_reducible refine Below.drew ?_) | (with_reducible refine below_drewN ?_ _) | (with_reducible refine Below.setCell ?_ ?_ _) | (with_reducible refine below_via ‹_› ?_ ?_) | (with_reducible refine below_grow ?_ ?_ _ _) | omega | (simp; done) | (simp; omega)))⟩
          case measure => simp [intOf]; omega
      · have hh : hi = lo + 1 := by omega
        subst hh
        by_cases hneg : lo < 0
        · have hlo : lo = -1 := by omega
          subst hlo
          have HL := hid (late_none (s := s) (c := c) HA.out HLD.out (downF_none 4320 fun t h1 h2 => ok_above (HHI.out (by omega)) t (by omega)))
          clear hneg hlt
          go_wp2
          go_ret2
          exact ⟨by rw [HL.out.1, HL.out.2]; rfl, by (repeat' (first | (with_reducible exact Below.refl _ _) | (with_reducible refine Below.alloc ?_ ?_ _) | (with_reducible refine Below.drew ?_) | (with_reducible refine below_drewN ?_ _) | (with_reducible refine Below.setCell ?_ ?_ _) | (with_reducible refine below_via ‹_› ?_ ?_) | (with_reducible refine below_grow ?_ ?_ _ _) | omega | (simp; done) | (simp; omega)))⟩
        · have HL := hid (late_ok (s := s) (c := c) HA.out HLD.out (down_found (n := lo) (by omega) (by omega) (HLO.out (by omega)) fun t h1 h2 => ok_above (HHI.out (by omega)) t (by omega)) (by omega))
          go_wp2
          go_ret2
          exact ⟨by rw [HL.out.1, HL.out.2]; rfl, by (repeat' (first | (with_reducible exact Below.refl _ _) | (with_reducible refine Below.alloc ?_ ?_ _) | (with_reducible refine Below.drew ?_) | (with_reducible refine below_drewN ?_ _) | (with_reducible refine Below.setCell ?_ ?_ _) | (with_reducible refine below_via ‹_› ?_ ?_) | (with_reducible refine below_grow ?_ ?_ _ _) | omega | (simp; done) | (simp; omega)))⟩
  · have hne : (askF s a b c x y ws os 0 != 0) = true := by simpa using h0
    have HL := hid (lateF_bad h0)
    clear h0
    go_enter Try.func47, Try.ntmps47
    go_wp2_with (first | (go_at_call 86; refine (c_l25Ask _ _ s a b c _ _ _ _ _ _ _ _ (by first | omega | (simp; done) | (simp; omega)) (by assumption) (by first | assumption | (simp [*, go_sem]; done)) (by first | assumption | (simp [*, go_sem]; done)) (by first | assumption | (simp [*, go_sem]; done)) (by first | assumption | (simp [*, go_sem]; done)) (by first | (with_reducible assumption) | (with_reducible apply SlO.at; (with_reducible assumption); (repeat' (first | (with_reducible exact Below.refl _ _) | (with_reducible refine Below.alloc ?_ ?_ _) | (with_reducible refine Below.drew ?_) | (with_reducible refine below_drewN ?_ _) | (with_reducible refine Below.setCell ?_ ?_ _) | (with_reducible refine below_via ‹_› ?_ ?_) | (with_reducible refine below_grow ?_ ?_ _ _) | omega | (simp; done) | (simp; omega))); done) | (with_reducible apply SlA.at; (with_reducible assumption); (repeat' (first | (with_reducible exact Below.refl _ _) | (with_reducible refine Below.alloc ?_ ?_ _) | (with_reducible refine Below.drew ?_) | (with_reducible refine below_drewN ?_ _) | (with_reducible refine Below.setCell ?_ ?_ _) | (with_reducible refine below_via ‹_› ?_ ?_) | (with_reducible refine below_grow ?_ ?_ _ _) | omega | (simp; done) | (simp; omega))); done)) (by assumption) (by first | (with_reducible assumption) | (with_reducible apply SlO.at; (with_reducible assumption); (repeat' (first | (with_reducible exact Below.refl _ _) | (with_reducible refine Below.alloc ?_ ?_ _) | (with_reducible refine Below.drew ?_) | (with_reducible refine below_drewN ?_ _) | (with_reducible refine Below.setCell ?_ ?_ _) | (with_reducible refine below_via ‹_› ?_ ?_) | (with_reducible refine below_grow ?_ ?_ _ _) | omega | (simp; done) | (simp; omega))); done) | (with_reducible apply SlA.at; (with_reducible assumption); (repeat' (first | (with_reducible exact Below.refl _ _) | (with_reducible refine Below.alloc ?_ ?_ _) | (with_reducible refine Below.drew ?_) | (with_reducible refine below_drewN ?_ _) | (with_reducible refine Below.setCell ?_ ?_ _) | (with_reducible refine below_via ‹_› ?_ ?_) | (with_reducible refine below_grow ?_ ?_ _ _) | omega | (simp; done) | (simp; omega))); done)) (by omega)).mono ?_; rintro e w1 ⟨rfl, hb⟩; obtain ⟨hc, hf⟩ := bcell hb; have hz := hb.size; (try simp at hz); (try have hz0 : ∀ b, b < w.heap.size → b < w1.heap.size := fun b h => by omega); (try have hz1 : w.heap.size < w1.heap.size := by omega); (try have hz2 : w.heap.size + 1 < w1.heap.size := by omega); (try have hz3 : w.heap.size + 2 < w1.heap.size := by omega)))
    go_ret2
    exact ⟨by rw [HL.out.1, HL.out.2]; rfl, by (repeat' (first | (with_reducible exact Below.refl _ _) | (with_reducible refine Below.alloc ?_ ?_ _) | (with_reducible refine Below.drew ?_) | (with_reducible refine below_drewN ?_ _) | (with_reducible refine Below.setCell ?_ ?_ _) | (with_reducible refine below_via ‹_› ?_ ?_) | (with_reducible refine below_grow ?_ ?_ _ _) | omega | (simp; done) | (simp; omega)))⟩
end Go.Proofs.Ytmolcfagmiecjaa
