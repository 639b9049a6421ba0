/- Sectors painted; both sides. -/
import Derived.Test.YtabbhlehbhadiaaGreatDoorSpecS
namespace Go.Proofs.YtabbhlehbhadiaaGreatDoor
open Go.RowKit Go.Sort
set_option maxRecDepth 100000

/-- the first m bearings looked at -/
def paQ (c : Circ) (f t : Int) (col : ByteArray) (m : Int) (x : Int) : ByteArray := if (x - f) % 360 < arcV f t ∧ x < m then col else c x
/-- the first m bearings of the sector -/
def paP (c : Circ) (f : Int) (col : ByteArray) (m : Int) (x : Int) : ByteArray := if (x - f) % 360 < m then col else c x
def paF (c : Circ) (f t : Int) (col : ByteArray) (x : Int) : ByteArray := if (x - f) % 360 < arcV f t then col else c x
theorem paQ_zero (c : Circ) (f t : Int) (col : ByteArray) {x : Int} (h : 0 ≤ x) : paQ c f t col ((0 : Nat) : Int) x = c x := by unfold paQ; rw [if_neg (by omega)]
theorem paQ_full (c : Circ) (f t : Int) (col : ByteArray) {x : Int} (h : x < 360) : paF c f t col x = paQ c f t col ((360 : Nat) : Int) x := by
  unfold paQ paF
  by_cases h2 : (x - f) % 360 < arcV f t
  · rw [if_pos h2, if_pos ⟨h2, by omega⟩]
  · rw [if_neg h2, if_neg (fun k => h2 k.1)]
theorem paQ_t {c : Circ} {f t : Int} {col : ByteArray} {m : Nat} (h : (((m : Int) - f) % 360 < arcV f t)) (x : Int) : paQ c f t col ((m + 1 : Nat) : Int) x = if x = m then col else paQ c f t col m x := by
  unfold paQ
  by_cases e : x = m
  · subst e; rw [if_pos rfl, if_pos ⟨h, by omega⟩]
  · rw [if_neg e]
    by_cases e2 : (x - f) % 360 < arcV f t ∧ x < m
    · rw [if_pos e2, if_pos ⟨e2.1, by omega⟩]
    · rw [if_neg e2, if_neg (fun k => e2 ⟨k.1, by omega⟩)]
theorem paQ_f {c : Circ} {f t : Int} {col : ByteArray} {m : Nat} (h : ¬ (((m : Int) - f) % 360 < arcV f t)) (x : Int) : paQ c f t col ((m + 1 : Nat) : Int) x = paQ c f t col m x := by
  unfold paQ
  by_cases e2 : (x - f) % 360 < arcV f t ∧ x < m
  · rw [if_pos e2, if_pos ⟨e2.1, by omega⟩]
  · rw [if_neg e2, if_neg (fun k => by
      by_cases e : x = m
      · subst e; exact h k.1
      · exact e2 ⟨k.1, by omega⟩)]
theorem paP_zero (c : Circ) (f : Int) (col : ByteArray) (x : Int) : paP c f col ((0 : Nat) : Int) x = c x := by unfold paP; rw [if_neg (by omega)]
theorem paP_full (c : Circ) (f t : Int) (col : ByteArray) (x : Int) : paF c f t col x = paP c f col (arcV f t) x := rfl
theorem paP_step (c : Circ) (f : Int) (col : ByteArray) (m : Nat) (hm : m < 360) (x : Int) (h0 : 0 ≤ x) (h1 : x < 360) : paP c f col ((m + 1 : Nat) : Int) x = if x = (f + (m : Int)) % 360 then col else paP c f col m x := by
  unfold paP
  by_cases h : x = (f + (m : Int)) % 360
  · rw [if_pos h, if_pos (by omega)]
  · rw [if_neg h]
    by_cases h2 : (x - f) % 360 < m
    · rw [if_pos h2, if_pos (by omega)]
    · rw [if_neg h2, if_neg (by omega)]
def parB (f t : Int) (c : ByteArray) : Bool := (bearB f && bearB t) && (c.toList.isEmpty || colB c)
def paL0 (xs : List SectorD) (f t : Int) (c : ByteArray) : List SectorD := simpF (paF (circ xs xs.length) f t c) false
def paL (xs : List SectorD) (f t : Int) (c : ByteArray) : List SectorD := if secB xs && parB f t c && decide (((paL0 xs f t c).length : Int) ≤ 12) then paL0 xs f t c else []
def paC (xs : List SectorD) (f t : Int) (c : ByteArray) : Int := if secB xs then (if parB f t c then (if decide (((paL0 xs f t c).length : Int) ≤ 12) then 0 else 5) else 2) else 1
theorem paL_len (xs : List SectorD) (f t : Int) (c : ByteArray) : (paL xs f t c).length ≤ 360 := by unfold paL; split; exact simpF_len _ _; simp
set_option maxHeartbeats 4000000 in
theorem c_impl_PaintSector (v : Value) (xs : List SectorD) (f t : Int) (c : ByteArray) (w : World) (h : SlA w 0 3 encSector v xs) (hok : ∀ x ∈ xs, okSector x) (hl : xs.length ≤ 1048576) (hc : c.size ≤ maxLen) :
    Calls Tryz.prog 18 #[v, .agg #[.int .i64 f, .int .i64 t, .string c]] w fun e w' => SectorsCode w w' (paL xs f t c) (paC xs f t c) e := by
  cases hs : secB xs
  · have HL := hid (show paL xs f t c = [] ∧ paC xs f t c = 1 by simp [paL, paC, hs])
    go_enter Tryz.func18, Tryz.ntmps18
    go_wp2_with (first | (go_at_call 49; refine (c_impl_ValidSectors _ _ _ (by first | (with_reducible assumption) | (with_reducible apply SlO.at; (with_reducible assumption); (repeat' (first | (with_reducible exact Below.refl _ _) | (with_reducible refine Below.alloc ?_ ?_ _) | (with_reducible refine Below.drew ?_) | (with_reducible refine below_drewN ?_ _) | (with_reducible refine Below.setCell ?_ ?_ _) | (with_reducible refine below_via ‹_› ?_ ?_) | (with_reducible refine below_grow ?_ ?_ _ _) | omega | (simp; done) | (simp; omega))); done) | (with_reducible apply SlA.at; (with_reducible assumption); (repeat' (first | (with_reducible exact Below.refl _ _) | (with_reducible refine Below.alloc ?_ ?_ _) | (with_reducible refine Below.drew ?_) | (with_reducible refine below_drewN ?_ _) | (with_reducible refine Below.setCell ?_ ?_ _) | (with_reducible refine below_via ‹_› ?_ ?_) | (with_reducible refine below_grow ?_ ?_ _ _) | omega | (simp; done) | (simp; omega))); done)) (by assumption) (by omega)).mono ?_; rintro e w1 ⟨rfl, hb⟩; obtain ⟨hc, hf⟩ := bcell hb; have hz := hb.size; (try simp at hz); (try have hz0 : ∀ b, b < w.heap.size → b < w1.heap.size := fun b h => by omega); (try have hz1 : w.heap.size < w1.heap.size := by omega); (try have hz2 : w.heap.size + 1 < w1.heap.size := by omega); (try have hz3 : w.heap.size + 2 < w1.heap.size := by omega)))
    go_ret2
    rw [HL.out.2]
    exact sectorsCode_none (by (repeat' (first | (with_reducible exact Below.refl _ _) | (with_reducible refine Below.alloc ?_ ?_ _) | (with_reducible refine Below.drew ?_) | (with_reducible refine below_drewN ?_ _) | (with_reducible refine Below.setCell ?_ ?_ _) | (with_reducible refine below_via ‹_› ?_ ?_) | (with_reducible refine below_grow ?_ ?_ _ _) | omega | (simp; done) | (simp; omega)))) HL.out.1
  cases hff : bearB f
  · have HL := hid (show paL xs f t c = [] ∧ paC xs f t c = 2 by simp [paL, paC, hs, parB, hff])
    go_enter Tryz.func18, Tryz.ntmps18
    go_wp2_with (first | (go_at_call 49; refine (c_impl_ValidSectors _ _ _ (by first | (with_reducible assumption) | (with_reducible apply SlO.at; (with_reducible assumption); (repeat' (first | (with_reducible exact Below.refl _ _) | (with_reducible refine Below.alloc ?_ ?_ _) | (with_reducible refine Below.drew ?_) | (with_reducible refine below_drewN ?_ _) | (with_reducible refine Below.setCell ?_ ?_ _) | (with_reducible refine below_via ‹_› ?_ ?_) | (with_reducible refine below_grow ?_ ?_ _ _) | omega | (simp; done) | (simp; omega))); done) | (with_reducible apply SlA.at; (with_reducible assumption); (repeat' (first | (with_reducible exact Below.refl _ _) | (with_reducible refine Below.alloc ?_ ?_ _) | (with_reducible refine Below.drew ?_) | (with_reducible refine below_drewN ?_ _) | (with_reducible refine Below.setCell ?_ ?_ _) | (with_reducible refine below_via ‹_› ?_ ?_) | (with_reducible refine below_grow ?_ ?_ _ _) | omega | (simp; done) | (simp; omega))); done)) (by assumption) (by omega)).mono ?_; rintro e w1 ⟨rfl, hb⟩; obtain ⟨hc, hf⟩ := bcell hb; have hz := hb.size; (try simp at hz); (try have hz0 : ∀ b, b < w.heap.size → b < w1.heap.size := fun b h => by omega); (try have hz1 : w.heap.size < w1.heap.size := by omega); (try have hz2 : w.heap.size + 1 < w1.heap.size := by omega); (try have hz3 : w.heap.size + 2 < w1.heap.size := by omega)) | (go_at_call 50; refine (c_isBearing _ _).mono ?_; rintro e w' ⟨rfl, rfl⟩) | (go_at_call 51; refine (c_isColor _ _ (by assumption)).mono ?_; rintro e w' ⟨rfl, rfl⟩))
    go_ret2
    rw [HL.out.2]
    exact sectorsCode_none (by (repeat' (first | (with_reducible exact Below.refl _ _) | (with_reducible refine Below.alloc ?_ ?_ _) | (with_reducible refine Below.drew ?_) | (with_reducible refine below_drewN ?_ _) | (with_reducible refine Below.setCell ?_ ?_ _) | (with_reducible refine below_via ‹_› ?_ ?_) | (with_reducible refine below_grow ?_ ?_ _ _) | omega | (simp; done) | (simp; omega)))) HL.out.1
  cases htt : bearB t
  · have HL := hid (show paL xs f t c = [] ∧ paC xs f t c = 2 by simp [paL, paC, hs, parB, htt])
    go_enter Tryz.func18, Tryz.ntmps18
    go_wp2_with (first | (go_at_call 49; refine (c_impl_ValidSectors _ _ _ (by first | (with_reducible assumption) | (with_reducible apply SlO.at; (with_reducible assumption); (repeat' (first | (with_reducible exact Below.refl _ _) | (with_reducible refine Below.alloc ?_ ?_ _) | (with_reducible refine Below.drew ?_) | (with_reducible refine below_drewN ?_ _) | (with_reducible refine Below.setCell ?_ ?_ _) | (with_reducible refine below_via ‹_› ?_ ?_) | (with_reducible refine below_grow ?_ ?_ _ _) | omega | (simp; done) | (simp; omega))); done) | (with_reducible apply SlA.at; (with_reducible assumption); (repeat' (first | (with_reducible exact Below.refl _ _) | (with_reducible refine Below.alloc ?_ ?_ _) | (with_reducible refine Below.drew ?_) | (with_reducible refine below_drewN ?_ _) | (with_reducible refine Below.setCell ?_ ?_ _) | (with_reducible refine below_via ‹_› ?_ ?_) | (with_reducible refine below_grow ?_ ?_ _ _) | omega | (simp; done) | (simp; omega))); done)) (by assumption) (by omega)).mono ?_; rintro e w1 ⟨rfl, hb⟩; obtain ⟨hc, hf⟩ := bcell hb; have hz := hb.size; (try simp at hz); (try have hz0 : ∀ b, b < w.heap.size → b < w1.heap.size := fun b h => by omega); (try have hz1 : w.heap.size < w1.heap.size := by omega); (try have hz2 : w.heap.size + 1 < w1.heap.size := by omega); (try have hz3 : w.heap.size + 2 < w1.heap.size := by omega)) | (go_at_call 50; refine (c_isBearing _ _).mono ?_; rintro e w' ⟨rfl, rfl⟩) | (go_at_call 51; refine (c_isColor _ _ (by assumption)).mono ?_; rintro e w' ⟨rfl, rfl⟩))
    go_ret2
    rw [HL.out.2]
    exact sectorsCode_none (by (repeat' (first | (with_reducible exact Below.refl _ _) | (with_reducible refine Below.alloc ?_ ?_ _) | (with_reducible refine Below.drew ?_) | (with_reducible refine below_drewN ?_ _) | (with_reducible refine Below.setCell ?_ ?_ _) | (with_reducible refine below_via ‹_› ?_ ?_) | (with_reducible refine below_grow ?_ ?_ _ _) | omega | (simp; done) | (simp; omega)))) HL.out.1
  cases hg : c.toList.isEmpty || colB c
  · have he : c.toList.isEmpty = false := by cases h : c.toList.isEmpty; rfl; rw [h] at hg; cases hg
    have hcb : colB c = false := by cases h : colB c; rfl; rw [h, Bool.or_true] at hg; cases hg
    have hne : ¬ c.toList = [] := by intro e; rw [e] at he; simp at he
    have HL := hid (show paL xs f t c = [] ∧ paC xs f t c = 2 by simp only [paL, paC, hs, parB, hff, htt, hg, Bool.and_false, Bool.false_and, Bool.and_self, if_true, if_false, Bool.false_eq_true, and_self])
    clear hg
    go_enter Tryz.func18, Tryz.ntmps18
    go_wp2_with (first | (go_at_call 49; refine (c_impl_ValidSectors _ _ _ (by first | (with_reducible assumption) | (with_reducible apply SlO.at; (with_reducible assumption); (repeat' (first | (with_reducible exact Below.refl _ _) | (with_reducible refine Below.alloc ?_ ?_ _) | (with_reducible refine Below.drew ?_) | (with_reducible refine below_drewN ?_ _) | (with_reducible refine Below.setCell ?_ ?_ _) | (with_reducible refine below_via ‹_› ?_ ?_) | (with_reducible refine below_grow ?_ ?_ _ _) | omega | (simp; done) | (simp; omega))); done) | (with_reducible apply SlA.at; (with_reducible assumption); (repeat' (first | (with_reducible exact Below.refl _ _) | (with_reducible refine Below.alloc ?_ ?_ _) | (with_reducible refine Below.drew ?_) | (with_reducible refine below_drewN ?_ _) | (with_reducible refine Below.setCell ?_ ?_ _) | (with_reducible refine below_via ‹_› ?_ ?_) | (with_reducible refine below_grow ?_ ?_ _ _) | omega | (simp; done) | (simp; omega))); done)) (by assumption) (by omega)).mono ?_; rintro e w1 ⟨rfl, hb⟩; obtain ⟨hc, hf⟩ := bcell hb; have hz := hb.size; (try simp at hz); (try have hz0 : ∀ b, b < w.heap.size → b < w1.heap.size := fun b h => by omega); (try have hz1 : w.heap.size < w1.heap.size := by omega); (try have hz2 : w.heap.size + 1 < w1.heap.size := by omega); (try have hz3 : w.heap.size + 2 < w1.heap.size := by omega)) | (go_at_call 50; refine (c_isBearing _ _).mono ?_; rintro e w' ⟨rfl, rfl⟩) | (go_at_call 51; refine (c_isColor _ _ (by assumption)).mono ?_; rintro e w' ⟨rfl, rfl⟩))
    go_ret2
    rw [HL.out.2]
    exact sectorsCode_none (by (repeat' (first | (with_reducible exact Below.refl _ _) | (with_reducible refine Below.alloc ?_ ?_ _) | (with_reducible refine Below.drew ?_) | (with_reducible refine below_drewN ?_ _) | (with_reducible refine Below.setCell ?_ ?_ _) | (with_reducible refine below_via ‹_› ?_ ?_) | (with_reducible refine below_grow ?_ ?_ _ _) | omega | (simp; done) | (simp; omega)))) HL.out.1
  obtain ⟨K, hK⟩ : ∃ K : Circ, K = circ xs xs.length := ⟨_, rfl⟩
  obtain ⟨R, hR⟩ : ∃ R, R = paL0 xs f t c := ⟨_, rfl⟩
  have HR := hid (show R = simpF (paF K f t c) false by rw [hR, hK]; rfl)
  have HL := hid (show paL xs f t c = (if decide ((R.length : Int) ≤ 12) then R else []) ∧ paC xs f t c = (if decide ((R.length : Int) ≤ 12) then 0 else 5) by simp only [paL, paC, hs, parB, hff, htt, hg, ← hR, Bool.true_and, Bool.and_true, if_true, and_self])
  have cp : ∀ wq, SlA wq 0 3 encSector v xs → Calls Tryz.prog 52 #[v] wq fun e w' => e = .returned (.agg (circA K)) ∧ Below wq.heap.size wq w' := fun wq h => by rw [hK]; exact c_painted v xs wq h hs
  have hRl : R.length ≤ 360 := by rw [HR.out]; exact simpF_len _ _
  clear hK hR
  have hfb := inB_true hff
  have HG := hid hg
  clear hg
  -- to the loop, whether there is a color or not
  have main : ∀ (b1 b2 : Bool), c.toList.isEmpty = b1 → colB c = b2 → (b1 || b2) = true → Calls Tryz.prog 18 #[v, .agg #[.int .i64 f, .int .i64 t, .string c]] w fun e w' => SectorsCode w w' (paL xs f t c) (paC xs f t c) e := by
    intro b1 b2 he hcb hbb
    have hne : decide (c.toList = []) = b1 := by rw [← he]; cases c.toList <;> simp
    cases b1
    all_goals
      cases b2
    · cases hbb
    all_goals
      clear hbb
    all_goals
      first
        | have e1 : ¬ c.toList = [] := by intro e; rw [e] at he; simp at he
        | have e1 : c.toList = [] := by simpa using he
      clear hne
      go_enter Tryz.func18, Tryz.ntmps18
      go_wp2_with (first | (go_at_call 49; refine (c_impl_ValidSectors _ _ _ (by first | (with_reducible assumption) | (with_reducible apply SlO.at; (with_reducible assumption); (repeat' (first | (with_reducible exact Below.refl _ _) | (with_reducible refine Below.alloc ?_ ?_ _) | (with_reducible refine Below.drew ?_) | (with_reducible refine below_drewN ?_ _) | (with_reducible refine Below.setCell ?_ ?_ _) | (with_reducible refine below_via ‹_› ?_ ?_) | (with_reducible refine below_grow ?_ ?_ _ _) | omega | (simp; done) | (simp; omega))); done) | (with_reducible apply SlA.at; (with_reducible assumption); (repeat' (first | (with_reducible exact Below.refl _ _) | (with_reducible refine Below.alloc ?_ ?_ _) | (with_reducible refine Below.drew ?_) | (with_reducible refine below_drewN ?_ _) | (with_reducible refine Below.setCell ?_ ?_ _) | (with_reducible refine below_via ‹_› ?_ ?_) | (with_reducible refine below_grow ?_ ?_ _ _) | omega | (simp; done) | (simp; omega))); done)) (by assumption) (by omega)).mono ?_; rintro e w1 ⟨rfl, hb⟩; obtain ⟨hc, hf⟩ := bcell hb; have hz := hb.size; (try simp at hz); (try have hz0 : ∀ b, b < w.heap.size → b < w1.heap.size := fun b h => by omega); (try have hz1 : w.heap.size < w1.heap.size := by omega); (try have hz2 : w.heap.size + 1 < w1.heap.size := by omega); (try have hz3 : w.heap.size + 2 < w1.heap.size := by omega)) | (go_at_call 50; refine (c_isBearing _ _).mono ?_; rintro e w' ⟨rfl, rfl⟩) | (go_at_call 51; refine (c_isColor _ _ (by assumption)).mono ?_; rintro e w' ⟨rfl, rfl⟩) | (go_at_call 52; refine (cp _ (by first | (with_reducible assumption) | (with_reducible apply SlO.at; (with_reducible assumption); (repeat' (first | (with_reducible exact Below.refl _ _) | (with_reducible refine Below.alloc ?_ ?_ _) | (with_reducible refine Below.drew ?_) | (with_reducible refine below_drewN ?_ _) | (with_reducible refine Below.setCell ?_ ?_ _) | (with_reducible refine below_via ‹_› ?_ ?_) | (with_reducible refine below_grow ?_ ?_ _ _) | omega | (simp; done) | (simp; omega))); done) | (with_reducible apply SlA.at; (with_reducible assumption); (repeat' (first | (with_reducible exact Below.refl _ _) | (with_reducible refine Below.alloc ?_ ?_ _) | (with_reducible refine Below.drew ?_) | (with_reducible refine below_drewN ?_ _) | (with_reducible refine Below.setCell ?_ ?_ _) | (with_reducible refine below_via ‹_› ?_ ?_) | (with_reducible refine below_grow ?_ ?_ _ _) | omega | (simp; done) | (simp; omega))); done))).mono ?_; rintro e w2 ⟨rfl, hb2⟩) | (refine wpList_store_row rfl 85 (.tmp 6) (.tmp 34) rfl w2.heap.size (circA K) rfl rfl 85 Tryz.zeroCells85 (by rw [heap_alloc_new]) (by rw [circA_size]; exact info_circle) (by rw [zc_circle, circA_size, circA_size]) (circA_one _) ?_))
      obtain ⟨W, hW⟩ : ∃ z, z = (w2.alloc (.cells Tryz.zeroCells85 85)).setRow w2.heap.size (circA K) := ⟨_, rfl⟩
      rw [← hW]
      have hz1 := hb.size
      have hz2 := hb2.size
      simp only [World.size_alloc] at hz1
      have hC0 : RowC W w2.heap.size (paQ K f t c ((0 : Nat) : Int)) := by
        have : RowC W w2.heap.size K := by
          rw [hW]; refine setRow_row (c := dark) ?_
          unfold RowC; rw [heap_alloc_new, zc_circle]
        exact this.congr fun d h0 _ => paQ_zero K f t c h0
      have hBW : Below w.heap.size w W := by rw [hW]; exact below_setRow (by (repeat' (first | (with_reducible exact Below.refl _ _) | (with_reducible refine Below.alloc ?_ ?_ _) | (with_reducible refine Below.drew ?_) | (with_reducible refine below_drewN ?_ _) | (with_reducible refine Below.setCell ?_ ?_ _) | (with_reducible refine below_via ‹_› ?_ ?_) | (with_reducible refine below_grow ?_ ?_ _ _) | omega | (simp; done) | (simp; omega)))) (by omega)
      have hB2W : Below w2.heap.size w2 W := by rw [hW]; exact below_setRow (by (repeat' (first | (with_reducible exact Below.refl _ _) | (with_reducible refine Below.alloc ?_ ?_ _) | (with_reducible refine Below.drew ?_) | (with_reducible refine below_drewN ?_ _) | (with_reducible refine Below.setCell ?_ ?_ _) | (with_reducible refine below_via ‹_› ?_ ?_) | (with_reducible refine below_grow ?_ ?_ _ _) | omega | (simp; done) | (simp; omega)))) (by omega)
      have s0 : W.cell? ⟨w.heap.size, 0, none⟩ = some (.int .i64 f) := below_cell hB2W (by omega) (below_cell hb2 (by omega) (below_cell hb (by simp) (by simp [go_sem])))
      have s1 : W.cell? ⟨w.heap.size, 1, none⟩ = some (.int .i64 t) := below_cell hB2W (by omega) (below_cell hb2 (by omega) (below_cell hb (by simp) (by simp [go_sem])))
      have s2 : W.cell? ⟨w.heap.size, 2, none⟩ = some (.string c) := below_cell hB2W (by omega) (below_cell hb2 (by omega) (below_cell hb (by simp) (by simp [go_sem])))
      have hzW : w2.heap.size < W.heap.size := hC0.lt
      clear hW hb hb2 hz e1 he hcb hB2W
      go_loopw [35] (fun i wr => ∃ m : Nat, m ≤ 360 ∧ i = .int .i64 m ∧ RowC wr w2.heap.size (paQ K f t c (m : Int)) ∧ wr.cell? ⟨w.heap.size, 0, none⟩ = some (.int .i64 f) ∧ wr.cell? ⟨w.heap.size, 1, none⟩ = some (.int .i64 t) ∧ wr.cell? ⟨w.heap.size, 2, none⟩ = some (.string c) ∧ Below w.heap.size w wr) (fun i _ => 360 - (intOf i).toNat)
      case atStart => exact ⟨0, by omega, rfl, hC0, s0, s1, s2, hBW⟩
      case round =>
        clear hC0 s0 s1 s2 hBW hzW
        obtain ⟨m, hm3, rfl, hC, s0, s1, s2, hBw⟩ := hrel
        have HC := hid hC
        have hzw := hBw.size
        have hlt1 := hC.lt
        have hlt2 : w.heap.size < wr.heap.size := by omega
        by_cases hmt : m < 360
        · have hmI : (m : Int) < 360 := by omega
          have c1 := hC.cell hmt
          have c2 := hC.frozen m
          have HV := hid (show hasV f t (m : Int) = decide (((m : Int) - f) % 360 < arcV f t) by rw [hasV, IntWalk.wrap64_in _ ⟨by omega, by omega⟩])
          have hI : I64 (m : Int) := ⟨by omega, by omega⟩
          have ch := fun wq => c_has f t c (m : Int) wq hff htt hI
          clear hC
          cases hq : hasV f t (m : Int)
          · have HQ := hid (show ¬ (((m : Int) - f) % 360 < arcV f t) by have := HV.out.symm.trans hq; simpa using this)
            rw [hq] at ch
            clear hq
            go_wp2_with (go_at_call 53; refine (ch _).mono ?_; rintro e w1 ⟨rfl, hb⟩; obtain ⟨hc, hf⟩ := bcell hb; have hz := hb.size; (try simp at hz); (try have hz0 : ∀ b, b < w.heap.size → b < w1.heap.size := fun b h => by omega); (try have hz1 : w.heap.size < w1.heap.size := by omega); (try have hz2 : w.heap.size + 1 < w1.heap.size := by omega); (try have hz3 : w.heap.size + 2 < w1.heap.size := by omega))
            go_roundw
            case rel => exact ⟨m + 1, by omega, by go_num, (HC.out.below (by (repeat' (first | (with_reducible exact Below.refl _ _) | (with_reducible refine Below.alloc ?_ ?_ _) | (with_reducible refine Below.drew ?_) | (with_reducible refine below_drewN ?_ _) | (with_reducible refine Below.setCell ?_ ?_ _) | (with_reducible refine below_via ‹_› ?_ ?_) | (with_reducible refine below_grow ?_ ?_ _ _) | omega | (simp; done) | (simp; omega))))).congr fun d _ _ => paQ_f (by have := HQ.out; omega) d, below_cell (by (repeat' (first | (with_reducible exact Below.refl _ _) | (with_reducible refine Below.alloc ?_ ?_ _) | (with_reducible refine Below.drew ?_) | (with_reducible refine below_drewN ?_ _) | (with_reducible refine Below.setCell ?_ ?_ _) | (with_reducible refine below_via ‹_› ?_ ?_) | (with_reducible refine below_grow ?_ ?_ _ _) | omega | (simp; done) | (simp; omega)))) (by omega) s0, below_cell (by (repeat' (first | (with_reducible exact Below.refl _ _) | (with_reducible refine Below.alloc ?_ ?_ _) | (with_reducible refine Below.drew ?_) | (with_reducible refine below_drewN ?_ _) | (with_reducible refine Below.setCell ?_ ?_ _) | (with_reducible refine below_via ‹_› ?_ ?_) | (with_reducible refine below_grow ?_ ?_ _ _) | omega | (simp; done) | (simp; omega)))) (by omega) s1, below_cell (by (repeat' (first | (with_reducible exact Below.refl _ _) | (with_reducible refine Below.alloc ?_ ?_ _) | (with_reducible refine Below.drew ?_) | (with_reducible refine below_drewN ?_ _) | (with_reducible refine Below.setCell ?_ ?_ _) | (with_reducible refine below_via ‹_› ?_ ?_) | (with_reducible refine below_grow ?_ ?_ _ _) | omega | (simp; done) | (simp; omega)))) (by omega) s2, by (repeat' (first | (with_reducible exact Below.refl _ _) | (with_reducible refine Below.alloc ?_ ?_ _) | (with_reducible refine Below.drew ?_) | (with_reducible refine below_drewN ?_ _) | (with_reducible refine Below.setCell ?_ ?_ _) | (with_reducible refine below_via ‹_› ?_ ?_) | (with_reducible refine below_grow ?_ ?_ _ _) | omega | (simp; done) | (simp; omega)))⟩
            case measure => simp [intOf]; omega
          · have HQ := hid (show ((m : Int) - f) % 360 < arcV f t by have := HV.out.symm.trans hq; simpa using this)
            rw [hq] at ch
            clear hq
            go_wp2_with (go_at_call 53; refine (ch _).mono ?_; rintro e w1 ⟨rfl, hb⟩; obtain ⟨hc, hf⟩ := bcell hb; have hz := hb.size; (try simp at hz); (try have hz0 : ∀ b, b < w.heap.size → b < w1.heap.size := fun b h => by omega); (try have hz1 : w.heap.size < w1.heap.size := by omega); (try have hz2 : w.heap.size + 1 < w1.heap.size := by omega); (try have hz3 : w.heap.size + 2 < w1.heap.size := by omega))
            go_roundw
            case rel =>
              have hC9 := HC.out.below (w' := w1) (by (repeat' (first | (with_reducible exact Below.refl _ _) | (with_reducible refine Below.alloc ?_ ?_ _) | (with_reducible refine Below.drew ?_) | (with_reducible refine below_drewN ?_ _) | (with_reducible refine Below.setCell ?_ ?_ _) | (with_reducible refine below_via ‹_› ?_ ?_) | (with_reducible refine below_grow ?_ ?_ _ _) | omega | (simp; done) | (simp; omega))))
              exact ⟨m + 1, by omega, by go_num, hC9.set c (fun d _ _ => paQ_t (by have := HQ.out; omega) d), cell_far (below_cell (by (repeat' (first | (with_reducible exact Below.refl _ _) | (with_reducible refine Below.alloc ?_ ?_ _) | (with_reducible refine Below.drew ?_) | (with_reducible refine below_drewN ?_ _) | (with_reducible refine Below.setCell ?_ ?_ _) | (with_reducible refine below_via ‹_› ?_ ?_) | (with_reducible refine below_grow ?_ ?_ _ _) | omega | (simp; done) | (simp; omega)))) (by omega) s0) (by omega), cell_far (below_cell (by (repeat' (first | (with_reducible exact Below.refl _ _) | (with_reducible refine Below.alloc ?_ ?_ _) | (with_reducible refine Below.drew ?_) | (with_reducible refine below_drewN ?_ _) | (with_reducible refine Below.setCell ?_ ?_ _) | (with_reducible refine below_via ‹_› ?_ ?_) | (with_reducible refine below_grow ?_ ?_ _ _) | omega | (simp; done) | (simp; omega)))) (by omega) s1) (by omega), cell_far (below_cell (by (repeat' (first | (with_reducible exact Below.refl _ _) | (with_reducible refine Below.alloc ?_ ?_ _) | (with_reducible refine Below.drew ?_) | (with_reducible refine below_drewN ?_ _) | (with_reducible refine Below.setCell ?_ ?_ _) | (with_reducible refine below_via ‹_› ?_ ?_) | (with_reducible refine below_grow ?_ ?_ _ _) | omega | (simp; done) | (simp; omega)))) (by omega) s2) (by omega), by (repeat' (first | (with_reducible exact Below.refl _ _) | (with_reducible refine Below.alloc ?_ ?_ _) | (with_reducible refine Below.drew ?_) | (with_reducible refine below_drewN ?_ _) | (with_reducible refine Below.setCell ?_ ?_ _) | (with_reducible refine below_via ‹_› ?_ ?_) | (with_reducible refine below_grow ?_ ?_ _ _) | omega | (simp; done) | (simp; omega)))⟩
            case measure => simp [intOf]; omega
        · have e : m = 360 := by omega
          subst e
          have HCF := hid (HC.out.congr fun d _ h1 => paQ_full K f t c h1)
          have cs : ∀ wq, Calls Tryz.prog 54 #[.agg (circA (paF K f t c))] wq fun e w' => ∃ u, e = .returned u ∧ Below wq.heap.size wq w' ∧ SlO w' wq.heap.size 3 encSector u R := fun wq => by rw [HR.out]; exact c_simple _ wq
          clear hC
          cases hd : decide ((R.length : Int) ≤ 12)
          all_goals
            have HD := hid hd
            go_wp2_with (first | (refine wpList_load_row rfl 85 (.tmp 6) rfl w2.heap.size rfl 85 (circA (paF K f t c)) (0, 0) _ HCF.out Tryz.underlying85 rfl (by rw [circA_size]; exact info_circle) ?_) | (go_at_call 54; refine (cs _).mono ?_; rintro e w3 ⟨u, rfl, hb3, hS⟩; obtain ⟨au, cu, rfl⟩ := hS.1.form) | (go_at_call 55; refine (c_few _ _ _).mono ?_; rintro e w' ⟨rfl, rfl⟩))
            go_ret2
          · rw [HL.out.1, HL.out.2, HD.out]
            exact sectorsCode_none (by (repeat' (first | (with_reducible exact Below.refl _ _) | (with_reducible refine Below.alloc ?_ ?_ _) | (with_reducible refine Below.drew ?_) | (with_reducible refine below_drewN ?_ _) | (with_reducible refine Below.setCell ?_ ?_ _) | (with_reducible refine below_via ‹_› ?_ ?_) | (with_reducible refine below_grow ?_ ?_ _ _) | omega | (simp; done) | (simp; omega)))) rfl
          · rw [HL.out.1, HL.out.2, HD.out]
            exact ⟨_, rfl, by (repeat' (first | (with_reducible exact Below.refl _ _) | (with_reducible refine Below.alloc ?_ ?_ _) | (with_reducible refine Below.drew ?_) | (with_reducible refine below_drewN ?_ _) | (with_reducible refine Below.setCell ?_ ?_ _) | (with_reducible refine below_via ‹_› ?_ ?_) | (with_reducible refine below_grow ?_ ?_ _ _) | omega | (simp; done) | (simp; omega))), hS.mono (by omega)⟩
  exact main _ _ rfl rfl HG.out
end Go.Proofs.YtabbhlehbhadiaaGreatDoor
