/- The color at a bearing: the circle of all bearings, and the first sector that has one. -/
import Derived.Test.YtabbhlehbhadiaaGreatDoorLit
import Derived.Test.YtabbhlehbhadiaaGreatDoorMark
import Derived.StillTailTactics
namespace Go.Proofs.YtabbhlehbhadiaaGreatDoor
open Go.RowKit Go.Sort
set_option maxRecDepth 100000

def cA (xs : List SectorD) (i : Nat) : ByteArray := match xs[i]? with | some d => d.fColor | none => ⟨#[]⟩
theorem cA_get {xs : List SectorD} {i : Nat} (h : i < xs.length) : cA xs i = xs[i].fColor := by simp [cA, h]
def hasI (xs : List SectorD) (i : Nat) (d : Int) : Bool := decide ((d - fA xs i) % 360 < aA xs i)
/-- what the first n sectors paint at d -/
def circ (xs : List SectorD) : Nat → Int → ByteArray
  | 0, _ => ⟨#[]⟩
  | n + 1, d => if hasI xs n d then cA xs n else circ xs n d
/-- .. and the first m bearings of the next one -/
def circP (xs : List SectorD) (n : Nat) (m : Int) (d : Int) : ByteArray := if (d - fA xs n) % 360 < m then cA xs n else circ xs n d
theorem circP_zero (xs : List SectorD) (n : Nat) (d : Int) : circP xs n 0 d = circ xs n d := by unfold circP; rw [if_neg (by omega)]
theorem circP_full (xs : List SectorD) (n : Nat) (d : Int) : circP xs n (aA xs n) d = circ xs (n + 1) d := by simp [circP, circ, hasI]
theorem circP_at (xs : List SectorD) (n : Nat) (m d : Int) (hm : 0 ≤ m) (hm2 : m < 360) (hd : 0 ≤ d) (hd2 : d < 360) : circP xs n (m + 1) d = if d = (fA xs n + m) % 360 then cA xs n else circP xs n m d := by
  unfold circP
  by_cases h : d = (fA xs n + m) % 360
  · rw [if_pos h, if_pos (by omega)]
  · rw [if_neg h]
    by_cases h2 : (d - fA xs n) % 360 < m
    · rw [if_pos h2, if_pos (by omega)]
    · rw [if_neg h2, if_neg (by omega)]
/-- the first sector that has a bearing -/
def firstC (xs : List SectorD) (d : Int) : Nat → Nat → ByteArray
  | _, 0 => ⟨#[]⟩
  | i, n + 1 => if hasI xs i d then cA xs i else firstC xs d (i + 1) n
theorem has_one {xs : List SectorD} (h : secB xs = true) {i j : Nat} (hij : i < j) (hj : j < xs.length) {d : Int} (hd : 0 ≤ d) (hd2 : d < 360) (h1 : hasI xs i d = true) : hasI xs j d = false := by
  obtain ⟨-, -, hs⟩ := secB_all h
  have hb : ∀ i, i < xs.length → 0 ≤ fA xs i ∧ fA xs i ≤ 359 := fun i hi => by have := stepS_bd (hs i hi) hi; omega
  have hf : ∀ i, 0 < i → i < xs.length → fA xs (i - 1) < fA xs i := fun i h0 hi => stepS_up (hs i hi) h0
  have hg : ∀ i, i < xs.length → aA xs i ≤ (fA xs ((i + 1) % xs.length) - fA xs i + 360) % 360 := fun i hi => by
    simp only [secB, Bool.and_eq_true, Bool.or_eq_true, decide_eq_true_eq, allB_iff] at h
    rcases h.2.2 with h | h
    · omega
    · simpa [gapS] using h i hi
  have g1 := gap_has hf hb hg i j (by omega) hj (by omega)
  have g2 := gap_has hf hb hg j i hj (by omega) (by omega)
  have l := rise_lt hf j hj i hij
  have b1 := hb i (by omega); have b2 := hb j hj
  simp only [hasI, decide_eq_true_eq] at h1
  simp only [hasI, decide_eq_false_iff_not]
  omega
theorem circ_none {xs : List SectorD} {d : Int} : ∀ n, (∀ i, i < n → hasI xs i d = false) → circ xs n d = ⟨#[]⟩
  | 0, _ => rfl
  | n + 1, h => by rw [circ, h n (by omega)]; exact circ_none n fun i hi => h i (by omega)
theorem circ_hit {xs : List SectorD} (h : secB xs = true) {d : Int} (hd : 0 ≤ d) (hd2 : d < 360) {k : Nat} (hk : hasI xs k d = true) : ∀ n, n ≤ xs.length → k < n → circ xs n d = cA xs k
  | 0, _, h => by omega
  | n + 1, hn, hkn => by
    by_cases e : k = n
    · subst e; rw [circ, hk]; rfl
    · rw [circ, has_one h (show k < n by omega) (by omega) hd hd2 hk]; exact circ_hit h hd hd2 hk n (by omega) (by omega)
def colV (xs : List SectorD) (n : Int) : ByteArray := if secB xs then circ xs xs.length (n % 360) else ⟨#[]⟩
theorem c_turnedI (a : Int) (w : World) (h : I64 a) :
    Calls Tryz.prog 61 #[.int .i64 a] w fun e w' => e = .returned (.int .i64 (a % 360)) ∧ w = w' := by
  unfold I64 at h
  have h1 : (0 ≤ a ∧ a.tmod 360 = a % 360) ∨ (a < 0 ∧ a.tmod 360 = -((-a) % 360)) := by
    by_cases h0 : 0 ≤ a
    · exact .inl ⟨h0, Int.tmod_eq_emod_of_nonneg h0⟩
    · refine .inr ⟨by omega, ?_⟩
      rw [← Int.tmod_eq_emod_of_nonneg (show 0 ≤ -a by omega), Int.neg_tmod]; omega
  have h2 : -360 < a.tmod 360 ∧ a.tmod 360 < 360 := by omega
  have H1 := hid h1
  clear h1
  go_enter Tryz.func61, Tryz.ntmps61
  go_wp2
  go_ret
  exact ⟨ret_int (by have := H1.out; omega), rfl⟩
set_option maxHeartbeats 1000000 in
theorem c_colorAt (v : Value) (xs : List SectorD) (n : Int) (w : World) (h : SlA w 0 3 encSector v xs) (hs : secB xs = true) (hn : I64 n) :
    Calls Tryz.prog 57 #[v, .int .i64 n] w fun e w' => e = .returned (.string (circ xs xs.length (n % 360))) ∧ Below w.heap.size w w' := by
  obtain ⟨ad, cap, b, off, rfl, hm, had, hx⟩ := h.uni
  obtain ⟨h12, hbe, -⟩ := secB_all hs
  have HX := hid hx
  have HBE := hid hbe
  clear hx hbe
  obtain ⟨d, hd⟩ : ∃ d, d = n % 360 := ⟨_, rfl⟩
  have hd0 : 0 ≤ d := by omega
  have hd1 : d < 360 := by omega
  rw [← hd]
  have ct : ∀ w, Calls Tryz.prog 61 #[.int .i64 n] w fun e w' => e = .returned (.int .i64 d) ∧ w = w' := fun w => by rw [hd]; exact c_turnedI n w hn
  clear hd
  go_enter Tryz.func57, Tryz.ntmps57
  go_wp2
  go_loopw [9] (fun i wr => ∃ k : Nat, k ≤ xs.length ∧ i = .int .i64 k ∧ (∀ i, i < k → hasI xs i d = false) ∧ Below w.heap.size w wr) (fun i _ => xs.length - (intOf i).toNat)
  case atStart => exact ⟨0, Nat.zero_le _, rfl, fun i hi => by omega, by (repeat' (first | (with_reducible exact Below.refl _ _) | (with_reducible refine Below.alloc ?_ ?_ _) | (with_reducible refine Below.drew ?_) | (with_reducible refine below_drewN ?_ _) | (with_reducible refine Below.setCell ?_ ?_ _) | (with_reducible refine below_via ‹_› ?_ ?_) | (with_reducible refine below_grow ?_ ?_ _ _) | omega | (simp; done) | (simp; omega)))⟩
  case round =>
    obtain ⟨k, hk, rfl, hno, hB⟩ := hrel
    have HN := hid hno; clear hno
    have hzr := hB.size
    by_cases hlt : k < xs.length
    · have hlI : (k : Int) < xs.length := by omega
      obtain ⟨rfl, hbb, -, hcc, hmc⟩ := had (by omega)
      have g0 := (hB.cell (p := ⟨b, off + k * 3 + 0, none⟩) hbb).trans (HX.out k hlt 0 (by omega))
      have g1 := (hB.cell (p := ⟨b, off + k * 3 + 1, none⟩) hbb).trans (HX.out k hlt 1 (by omega))
      have g2 := (hB.cell (p := ⟨b, off + k * 3 + 2, none⟩) hbb).trans (HX.out k hlt 2 (by omega))
      simp only [encSector, List.getD_cons_zero, List.getD_cons_succ, Nat.add_zero] at g0 g1 g2
      have hb2 := HBE.out k hlt
      have HH := hid (show hasI xs k d = decide ((d - fA xs k) % 360 < arcV (fA xs k) (tA xs k)) from rfl)
      have HC := hid (cA_get hlt)
      rw [fA_get hlt, tA_get hlt] at hb2 HH
      obtain ⟨hf, ht⟩ := hb2
      obtain ⟨f, hfe⟩ : ∃ f, f = xs[k].fFrom := ⟨_, rfl⟩
      obtain ⟨t, hte⟩ : ∃ t, t = xs[k].fTo := ⟨_, rfl⟩
      obtain ⟨c, hce⟩ : ∃ c, c = xs[k].fColor := ⟨_, rfl⟩
      rw [← hfe] at g0 hf HH
      rw [← hte] at g1 ht HH
      rw [← hce] at g2 HC
      have hfb := inB_true hf
      have HV := hid (show hasV f t d = hasI xs k d by rw [HH.out, hasV, IntWalk.wrap64_in _ ⟨by omega, by omega⟩])
      have hI : I64 d := ⟨by omega, by omega⟩
      clear hfe hte hce
      go_wp2
      obtain ⟨wa, hw1⟩ : ∃ x, x = wr.alloc (Obj.cells #[.int .i64 f, .int .i64 t, .string c] 45) := ⟨_, rfl⟩
      rw [← hw1]
      have ra2 : wa.cell? ⟨wr.heap.size, 2, none⟩ = some (.string c) := by rw [hw1]; simp [go_sem]
      have r0 := cellr (show wa.cell? ⟨wr.heap.size, 0, none⟩ = some (.int .i64 f) by rw [hw1]; simp [go_sem])
      have r1 := cellr (show wa.cell? ⟨wr.heap.size, 1, none⟩ = some (.int .i64 t) by rw [hw1]; simp [go_sem])
      have r2 := cellr ra2
      have hB1 : Below w.heap.size w wa := hw1 ▸ (by (repeat' (first | (with_reducible exact Below.refl _ _) | (with_reducible refine Below.alloc ?_ ?_ _) | (with_reducible refine Below.drew ?_) | (with_reducible refine below_drewN ?_ _) | (with_reducible refine Below.setCell ?_ ?_ _) | (with_reducible refine below_via ‹_› ?_ ?_) | (with_reducible refine below_grow ?_ ?_ _ _) | omega | (simp; done) | (simp; omega))))
      have hzA := hB1.size
      have hzb : wr.heap.size < wa.heap.size := by rw [hw1]; simp
      clear hw1
      cases hq : hasI xs k d
      · have hv : hasV f t d = false := HV.out.trans hq
        (refine wp_region_quiet_below (by kernel_rfl) (by kernel_rfl) ?_; (repeat (first | go_big_quiet_step ((first | (go_at_call 61; exact regrown_of_pure (ct _)) | (go_at_call 53; exact regrown_bool (c_has f t c d _ hf ht hI) hv))) | quiet_step ((first | (go_at_call 61; exact regrown_of_pure (ct _)) | (go_at_call 53; exact regrown_bool (c_has f t c d _ hf ht hI) hv))))); refine wpQuiet_nil ?_; intro w1 hw'; have hb := below_of_regrown hw'; clear hw'; obtain ⟨hc, hf⟩ := bcell hb; have hz := hb.size; (try simp at hz); (try have hz0 : ∀ b, b < w.heap.size → b < w1.heap.size := fun b h => by omega); (try have hz1 : w.heap.size < w1.heap.size := by omega); (try have hz2 : w.heap.size + 1 < w1.heap.size := by omega); (try have hz3 : w.heap.size + 2 < w1.heap.size := by omega))
        go_wp2
        go_roundw
        case rel => exact ⟨k + 1, by omega, by go_num, fun i hi => by
          by_cases e : i = k
          · subst e; exact hq
          · exact HN.out i (by omega), by (repeat' (first | (with_reducible exact Below.refl _ _) | (with_reducible refine Below.alloc ?_ ?_ _) | (with_reducible refine Below.drew ?_) | (with_reducible refine below_drewN ?_ _) | (with_reducible refine Below.setCell ?_ ?_ _) | (with_reducible refine below_via ‹_› ?_ ?_) | (with_reducible refine below_grow ?_ ?_ _ _) | omega | (simp; done) | (simp; omega)))⟩
        case measure => simp [intOf]; omega
      · have hv : hasV f t d = true := HV.out.trans hq
        have HR := hid (show circ xs xs.length d = c by rw [circ_hit hs hd0 hd1 hq xs.length (Nat.le_refl _) hlt, HC.out])
        (refine wp_region_quiet_below (by kernel_rfl) (by kernel_rfl) ?_; (repeat (first | go_big_quiet_step ((first | (go_at_call 61; exact regrown_of_pure (ct _)) | (go_at_call 53; exact regrown_bool (c_has f t c d _ hf ht hI) hv))) | quiet_step ((first | (go_at_call 61; exact regrown_of_pure (ct _)) | (go_at_call 53; exact regrown_bool (c_has f t c d _ hf ht hI) hv))))); refine wpQuiet_nil ?_; intro w1 hw'; have hb := below_of_regrown hw'; clear hw'; obtain ⟨hc, hf⟩ := bcell hb; have hz := hb.size; (try simp at hz); (try have hz0 : ∀ b, b < w.heap.size → b < w1.heap.size := fun b h => by omega); (try have hz1 : w.heap.size < w1.heap.size := by omega); (try have hz2 : w.heap.size + 1 < w1.heap.size := by omega); (try have hz3 : w.heap.size + 2 < w1.heap.size := by omega))
        go_wp2
        go_ret
        exact ⟨by rw [HR.out]; rfl, by (repeat' (first | (with_reducible exact Below.refl _ _) | (with_reducible refine Below.alloc ?_ ?_ _) | (with_reducible refine Below.drew ?_) | (with_reducible refine below_drewN ?_ _) | (with_reducible refine Below.setCell ?_ ?_ _) | (with_reducible refine below_via ‹_› ?_ ?_) | (with_reducible refine below_grow ?_ ?_ _ _) | omega | (simp; done) | (simp; omega)))⟩
    · have e : k = xs.length := by omega
      subst e
      have HR := hid (circ_none xs.length HN.out)
      go_wp2
      go_ret
      exact ⟨by rw [HR.out]; rfl, by (repeat' (first | (with_reducible exact Below.refl _ _) | (with_reducible refine Below.alloc ?_ ?_ _) | (with_reducible refine Below.drew ?_) | (with_reducible refine below_drewN ?_ _) | (with_reducible refine Below.setCell ?_ ?_ _) | (with_reducible refine below_via ‹_› ?_ ?_) | (with_reducible refine below_grow ?_ ?_ _ _) | omega | (simp; done) | (simp; omega)))⟩
theorem c_impl_ColorAt (v : Value) (xs : List SectorD) (n : Int) (w : World) (h : SlA w 0 3 encSector v xs) (hok : ∀ x ∈ xs, okSector x) (hl : xs.length ≤ 1048576) (hn : I64 n) :
    Calls Tryz.prog 20 #[v, .int .i64 n] w fun e w' => e = .returned (.string (colV xs n)) ∧ Below w.heap.size w w' := by
  cases hq1 : secB xs
  · go_enter Tryz.func20, Tryz.ntmps20
    go_wp2_with (first | (go_at_call 49; refine (c_impl_ValidSectors _ _ _ (by first | (with_reducible assumption) | (with_reducible apply SlO.at; (with_reducible assumption); (repeat' (first | (with_reducible exact Below.refl _ _) | (with_reducible refine Below.alloc ?_ ?_ _) | (with_reducible refine Below.drew ?_) | (with_reducible refine below_drewN ?_ _) | (with_reducible refine Below.setCell ?_ ?_ _) | (with_reducible refine below_via ‹_› ?_ ?_) | (with_reducible refine below_grow ?_ ?_ _ _) | omega | (simp; done) | (simp; omega))); done) | (with_reducible apply SlA.at; (with_reducible assumption); (repeat' (first | (with_reducible exact Below.refl _ _) | (with_reducible refine Below.alloc ?_ ?_ _) | (with_reducible refine Below.drew ?_) | (with_reducible refine below_drewN ?_ _) | (with_reducible refine Below.setCell ?_ ?_ _) | (with_reducible refine below_via ‹_› ?_ ?_) | (with_reducible refine below_grow ?_ ?_ _ _) | omega | (simp; done) | (simp; omega))); done)) (by assumption) (by omega)).mono ?_; rintro e w1 ⟨rfl, hb⟩; obtain ⟨hc, hf⟩ := bcell hb; have hz := hb.size; (try simp at hz); (try have hz0 : ∀ b, b < w.heap.size → b < w1.heap.size := fun b h => by omega); (try have hz1 : w.heap.size < w1.heap.size := by omega); (try have hz2 : w.heap.size + 1 < w1.heap.size := by omega); (try have hz3 : w.heap.size + 2 < w1.heap.size := by omega)) | (go_at_call 57; refine (c_colorAt _ _ _ _ (by first | (with_reducible assumption) | (with_reducible apply SlO.at; (with_reducible assumption); (repeat' (first | (with_reducible exact Below.refl _ _) | (with_reducible refine Below.alloc ?_ ?_ _) | (with_reducible refine Below.drew ?_) | (with_reducible refine below_drewN ?_ _) | (with_reducible refine Below.setCell ?_ ?_ _) | (with_reducible refine below_via ‹_› ?_ ?_) | (with_reducible refine below_grow ?_ ?_ _ _) | omega | (simp; done) | (simp; omega))); done) | (with_reducible apply SlA.at; (with_reducible assumption); (repeat' (first | (with_reducible exact Below.refl _ _) | (with_reducible refine Below.alloc ?_ ?_ _) | (with_reducible refine Below.drew ?_) | (with_reducible refine below_drewN ?_ _) | (with_reducible refine Below.setCell ?_ ?_ _) | (with_reducible refine below_via ‹_› ?_ ?_) | (with_reducible refine below_grow ?_ ?_ _ _) | omega | (simp; done) | (simp; omega))); done)) (by assumption) (by assumption)).mono ?_; rintro e w1 ⟨rfl, hb⟩; obtain ⟨hc, hf⟩ := bcell hb; have hz := hb.size; (try simp at hz); (try have hz0 : ∀ b, b < w.heap.size → b < w1.heap.size := fun b h => by omega); (try have hz1 : w.heap.size < w1.heap.size := by omega); (try have hz2 : w.heap.size + 1 < w1.heap.size := by omega); (try have hz3 : w.heap.size + 2 < w1.heap.size := by omega)))
    go_ret
    exact ⟨by simp [colV, *], by (repeat' (first | (with_reducible exact Below.refl _ _) | (with_reducible refine Below.alloc ?_ ?_ _) | (with_reducible refine Below.drew ?_) | (with_reducible refine below_drewN ?_ _) | (with_reducible refine Below.setCell ?_ ?_ _) | (with_reducible refine below_via ‹_› ?_ ?_) | (with_reducible refine below_grow ?_ ?_ _ _) | omega | (simp; done) | (simp; omega)))⟩
  go_enter Tryz.func20, Tryz.ntmps20
  go_wp2_with (first | (go_at_call 49; refine (c_impl_ValidSectors _ _ _ (by first | (with_reducible assumption) | (with_reducible apply SlO.at; (with_reducible assumption); (repeat' (first | (with_reducible exact Below.refl _ _) | (with_reducible refine Below.alloc ?_ ?_ _) | (with_reducible refine Below.drew ?_) | (with_reducible refine below_drewN ?_ _) | (with_reducible refine Below.setCell ?_ ?_ _) | (with_reducible refine below_via ‹_› ?_ ?_) | (with_reducible refine below_grow ?_ ?_ _ _) | omega | (simp; done) | (simp; omega))); done) | (with_reducible apply SlA.at; (with_reducible assumption); (repeat' (first | (with_reducible exact Below.refl _ _) | (with_reducible refine Below.alloc ?_ ?_ _) | (with_reducible refine Below.drew ?_) | (with_reducible refine below_drewN ?_ _) | (with_reducible refine Below.setCell ?_ ?_ _) | (with_reducible refine below_via ‹_› ?_ ?_) | (with_reducible refine below_grow ?_ ?_ _ _) | omega | (simp; done) | (simp; omega))); done)) (by assumption) (by omega)).mono ?_; rintro e w1 ⟨rfl, hb⟩; obtain ⟨hc, hf⟩ := bcell hb; have hz := hb.size; (try simp at hz); (try have hz0 : ∀ b, b < w.heap.size → b < w1.heap.size := fun b h => by omega); (try have hz1 : w.heap.size < w1.heap.size := by omega); (try have hz2 : w.heap.size + 1 < w1.heap.size := by omega); (try have hz3 : w.heap.size + 2 < w1.heap.size := by omega)) | (go_at_call 57; refine (c_colorAt _ _ _ _ (by first | (with_reducible assumption) | (with_reducible apply SlO.at; (with_reducible assumption); (repeat' (first | (with_reducible exact Below.refl _ _) | (with_reducible refine Below.alloc ?_ ?_ _) | (with_reducible refine Below.drew ?_) | (with_reducible refine below_drewN ?_ _) | (with_reducible refine Below.setCell ?_ ?_ _) | (with_reducible refine below_via ‹_› ?_ ?_) | (with_reducible refine below_grow ?_ ?_ _ _) | omega | (simp; done) | (simp; omega))); done) | (with_reducible apply SlA.at; (with_reducible assumption); (repeat' (first | (with_reducible exact Below.refl _ _) | (with_reducible refine Below.alloc ?_ ?_ _) | (with_reducible refine Below.drew ?_) | (with_reducible refine below_drewN ?_ _) | (with_reducible refine Below.setCell ?_ ?_ _) | (with_reducible refine below_via ‹_› ?_ ?_) | (with_reducible refine below_grow ?_ ?_ _ _) | omega | (simp; done) | (simp; omega))); done)) (by assumption) (by assumption)).mono ?_; rintro e w1 ⟨rfl, hb⟩; obtain ⟨hc, hf⟩ := bcell hb; have hz := hb.size; (try simp at hz); (try have hz0 : ∀ b, b < w.heap.size → b < w1.heap.size := fun b h => by omega); (try have hz1 : w.heap.size < w1.heap.size := by omega); (try have hz2 : w.heap.size + 1 < w1.heap.size := by omega); (try have hz3 : w.heap.size + 2 < w1.heap.size := by omega)))
  go_ret
  exact ⟨by simp [colV, *], by (repeat' (first | (with_reducible exact Below.refl _ _) | (with_reducible refine Below.alloc ?_ ?_ _) | (with_reducible refine Below.drew ?_) | (with_reducible refine below_drewN ?_ _) | (with_reducible refine Below.setCell ?_ ?_ _) | (with_reducible refine below_via ‹_› ?_ ?_) | (with_reducible refine below_grow ?_ ?_ _ _) | omega | (simp; done) | (simp; omega)))⟩
/-! ### the circle in memory -/
def CircC (w : World) (g : Nat) (c : Int → ByteArray) : Prop :=
  g < w.heap.size ∧ (∀ j, w.frozen? ⟨g, j, none⟩ = false) ∧ ∀ d : Nat, d < 360 → w.cell? ⟨g, d, none⟩ = some (.string (c d))
theorem CircC.below {w w' : World} {g : Nat} {c : Int → ByteArray} (h : CircC w g c) (hb : Below w.heap.size w w') : CircC w' g c := by
  obtain ⟨h1, h2, h3⟩ := h
  exact ⟨by have := hb.size; omega, fun j => by rw [hb.frozen (p := ⟨g, j, none⟩) h1]; exact h2 j, fun d hd => by rw [hb.cell (p := ⟨g, d, none⟩) h1]; exact h3 d hd⟩
theorem CircC.set {w : World} {g : Nat} {c c' : Int → ByteArray} (h : CircC w g c) {q : Nat} (hq : q < 360) (s : ByteArray) (hc : ∀ d : Int, 0 ≤ d → d < 360 → c' d = if d = q then s else c d) : CircC (w.setCell ⟨g, q, none⟩ (.string s)) g c' := by
  obtain ⟨h1, h2, h3⟩ := h
  refine ⟨by simpa [World.setCell] using h1, fun j => by rw [World.frozen?_setCell]; exact h2 j, fun d hd => ?_⟩
  rw [hc d (by omega) (by omega)]
  by_cases e : d = q
  · subst e; rw [World.cell?_setCell_same w _ _ (h3 d hd)]; simp
  · rw [World.cell?_setCell_other w _ _ _ (fun hh => e (by have := (Addr.mk.injEq .. ▸ hh).2.1; omega)), if_neg (by omega)]; exact h3 d hd
theorem CircC.congr {w : World} {g : Nat} {c c' : Int → ByteArray} (h : CircC w g c) (hc : ∀ d : Int, 0 ≤ d → d < 360 → c' d = c d) : CircC w g c' :=
  ⟨h.1, h.2.1, fun d hd => by rw [hc d (by omega) (by omega)]; exact h.2.2 d hd⟩
theorem info_Str : (Tryz.prog.info? 9).map (fun i => (i.zero, i.size, i.bytes)) = some (some (.string ⟨#[]⟩), 1, 16) := by kernel_rfl
end Go.Proofs.YtabbhlehbhadiaaGreatDoor
