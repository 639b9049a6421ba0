/- The times at which it is deep enough: the walks of both sides. -/
import Derived.Test.YtgdkaadlhpehlaaWin
namespace Go.Proofs.Ytgdkaadlhpehlaa
open Go.RowKit Go.Sort
set_option maxRecDepth 100000

def dwG (a b : Int) (xs : List Int) (d nd t z : Int) : Bool := depthB d && (depthB nd && lwG a b xs t z)
def dwN (t z : Int) : Nat := (z - t + 1).toNat
def dwP (a b : Int) (xs : List Int) (d nd t z : Int) : List (Int × Int) := if tideB a b xs && dwG a b xs d nd t z then winF (deepB a b xs d nd) t (dwN t z) else []
def dwC (a b : Int) (xs : List Int) (d nd t z : Int) : Int := if tideB a b xs then (if dwG a b xs d nd t z then 0 else 2) else 1
theorem info_Int64R : (Try.prog.info? 33).map (fun i => (i.zero, i.size, i.bytes)) = some (some (.slice none 0 0), 1, 24) := by kernel_rfl
theorem winF_yes {p : Int → Bool} {t x : Int} {n : Nat} (hx : x = t + n) (h : p x = true) : winF p t (n + 1) = winS (winF p t n) x true := by subst hx; rw [winF, h]
theorem winF_no {p : Int → Bool} {t x : Int} {n : Nat} (hx : x = t + n) (h : p x = false) : winF p t (n + 1) = winF p t n := by subst hx; rw [winF, h, winS_no]
def SpecSt (p : Int → Bool) (t : Int) (N k : Nat) (x ff : Int) (ps : List (Int × Int)) : Prop :=
  (k ≤ N ∧ ff = -1 ∧ winF p t k = ps ∧ ∀ q, ps[ps.length - 1]? = some q → q.2 < x - 1) ∨ (k ≤ N ∧ 0 ≤ ff ∧ winF p t k = ps ++ [(ff, x - 1)]) ∨ (k = N + 1 ∧ ps = winF p t N)
theorem last_snoc {ps : List (Int × Int)} {f e : Int} : ∀ q, (ps ++ [(f, e)])[(ps ++ [(f, e)]).length - 1]? = some q → q.2 = e := by
  intro q hq; simp at hq; rw [← hq]
set_option maxHeartbeats 4000000 in
theorem c_impl_DepthWindows (a b : Int) (v : Value) (xs : List Int) (d nd t z : Int) (w : World) (h : SlA w 0 1 encI v xs) (hl : xs.length ≤ 1048576) :
    Calls Try.prog 17 #[.agg #[.int .i64 a, .int .i64 b, v], .int .i64 d, .int .i64 nd, .int .i64 t, .int .i64 z] w fun e w' => ∃ u gs, e = .returned (.tuple #[u, .int .i64 (dwC a b xs d nd t z)]) ∧ Below w.heap.size w w' ∧ SlO w' w.heap.size 1 encG u gs ∧ WinC w' w.heap.size u gs (dwP a b xs d nd t z) := by
  obtain ⟨i0, hi, iz0, iz1, iz2⟩ := info_parts info_Int64R
  cases hq1 : tideB a b xs
  · have HP := hid (show dwP a b xs d nd t z = [] by simp [dwP, dwG, *])
    have HC := hid (show dwC a b xs d nd t z = if tideB a b xs then 2 else 1 by simp [dwC, dwG, *])
    have HL1 : ((lwC a b xs t z) != 0) = (!(tideB a b xs && lwG a b xs t z)) := by simp [lwC, *]
    have HL2 := hid (show lwC a b xs t z = if tideB a b xs then (if lwG a b xs t z then 0 else 2) else 1 from rfl)
    simp only [*] at HL1
    go_enter Try.func17, Try.ntmps17
    go_wp2_with (first | (go_at_call 58; refine (c_timesCode a b _ xs _ _ _ (by first | (with_reducible assumption) | (with_reducible apply SlO.at; (with_reducible assumption); (repeat' (first | (with_reducible exact Below.refl _ _) | (with_reducible refine Below.alloc ?_ ?_ _) | (with_reducible refine Below.drew ?_) | (with_reducible refine below_drewN ?_ _) | (with_reducible refine Below.setCell ?_ ?_ _) | (with_reducible refine below_via ‹_› ?_ ?_) | (with_reducible refine below_grow ?_ ?_ _ _) | omega | (simp; done) | (simp; omega))); done) | (with_reducible apply SlA.at; (with_reducible assumption); (repeat' (first | (with_reducible exact Below.refl _ _) | (with_reducible refine Below.alloc ?_ ?_ _) | (with_reducible refine Below.drew ?_) | (with_reducible refine below_drewN ?_ _) | (with_reducible refine Below.setCell ?_ ?_ _) | (with_reducible refine below_via ‹_› ?_ ?_) | (with_reducible refine below_grow ?_ ?_ _ _) | omega | (simp; done) | (simp; omega))); done)) (by omega)).mono ?_; rintro e w1 ⟨rfl, hb⟩; obtain ⟨hc, hf⟩ := bcell hb; have hz := hb.size; (try simp at hz); (try have hz0 : ∀ b, b < w.heap.size → b < w1.heap.size := fun b h => by omega); (try have hz1 : w.heap.size < w1.heap.size := by omega); (try have hz2 : w.heap.size + 1 < w1.heap.size := by omega); (try have hz3 : w.heap.size + 2 < w1.heap.size := by omega)) | (go_at_call 59; refine (c_isDepth _ _).mono ?_; rintro e w' ⟨rfl, rfl⟩))
    go_ret2
    exact ⟨_, [], by simp [HC.out, HL2.out, lwC, *], by (repeat' (first | (with_reducible exact Below.refl _ _) | (with_reducible refine Below.alloc ?_ ?_ _) | (with_reducible refine Below.drew ?_) | (with_reducible refine below_drewN ?_ _) | (with_reducible refine Below.setCell ?_ ?_ _) | (with_reducible refine below_via ‹_› ?_ ?_) | (with_reducible refine below_grow ?_ ?_ _ _) | omega | (simp; done) | (simp; omega))), ⟨.inl ⟨none, 0, rfl, rfl, Nat.zero_le _⟩, fun g hg => by simp [Value.ownBlock] at hg⟩, by rw [HP.out]; exact WinC.nil _ _ _⟩
  cases hq2 : lwG a b xs t z
  · have HP := hid (show dwP a b xs d nd t z = [] by simp [dwP, dwG, *])
    have HC := hid (show dwC a b xs d nd t z = if tideB a b xs then 2 else 1 by simp [dwC, dwG, *])
    have HL1 : ((lwC a b xs t z) != 0) = (!(tideB a b xs && lwG a b xs t z)) := by simp [lwC, *]
    have HL2 := hid (show lwC a b xs t z = if tideB a b xs then (if lwG a b xs t z then 0 else 2) else 1 from rfl)
    simp only [*] at HL1
    go_enter Try.func17, Try.ntmps17
    go_wp2_with (first | (go_at_call 58; refine (c_timesCode a b _ xs _ _ _ (by first | (with_reducible assumption) | (with_reducible apply SlO.at; (with_reducible assumption); (repeat' (first | (with_reducible exact Below.refl _ _) | (with_reducible refine Below.alloc ?_ ?_ _) | (with_reducible refine Below.drew ?_) | (with_reducible refine below_drewN ?_ _) | (with_reducible refine Below.setCell ?_ ?_ _) | (with_reducible refine below_via ‹_› ?_ ?_) | (with_reducible refine below_grow ?_ ?_ _ _) | omega | (simp; done) | (simp; omega))); done) | (with_reducible apply SlA.at; (with_reducible assumption); (repeat' (first | (with_reducible exact Below.refl _ _) | (with_reducible refine Below.alloc ?_ ?_ _) | (with_reducible refine Below.drew ?_) | (with_reducible refine below_drewN ?_ _) | (with_reducible refine Below.setCell ?_ ?_ _) | (with_reducible refine below_via ‹_› ?_ ?_) | (with_reducible refine below_grow ?_ ?_ _ _) | omega | (simp; done) | (simp; omega))); done)) (by omega)).mono ?_; rintro e w1 ⟨rfl, hb⟩; obtain ⟨hc, hf⟩ := bcell hb; have hz := hb.size; (try simp at hz); (try have hz0 : ∀ b, b < w.heap.size → b < w1.heap.size := fun b h => by omega); (try have hz1 : w.heap.size < w1.heap.size := by omega); (try have hz2 : w.heap.size + 1 < w1.heap.size := by omega); (try have hz3 : w.heap.size + 2 < w1.heap.size := by omega)) | (go_at_call 59; refine (c_isDepth _ _).mono ?_; rintro e w' ⟨rfl, rfl⟩))
    go_ret2
    exact ⟨_, [], by simp [HC.out, HL2.out, lwC, *], by (repeat' (first | (with_reducible exact Below.refl _ _) | (with_reducible refine Below.alloc ?_ ?_ _) | (with_reducible refine Below.drew ?_) | (with_reducible refine below_drewN ?_ _) | (with_reducible refine Below.setCell ?_ ?_ _) | (with_reducible refine below_via ‹_› ?_ ?_) | (with_reducible refine below_grow ?_ ?_ _ _) | omega | (simp; done) | (simp; omega))), ⟨.inl ⟨none, 0, rfl, rfl, Nat.zero_le _⟩, fun g hg => by simp [Value.ownBlock] at hg⟩, by rw [HP.out]; exact WinC.nil _ _ _⟩
  cases hq3 : depthB d
  · have HP := hid (show dwP a b xs d nd t z = [] by simp [dwP, dwG, *])
    have HC := hid (show dwC a b xs d nd t z = if tideB a b xs then 2 else 1 by simp [dwC, dwG, *])
    have HL1 : ((lwC a b xs t z) != 0) = (!(tideB a b xs && lwG a b xs t z)) := by simp [lwC, *]
    have HL2 := hid (show lwC a b xs t z = if tideB a b xs then (if lwG a b xs t z then 0 else 2) else 1 from rfl)
    simp only [*] at HL1
    go_enter Try.func17, Try.ntmps17
    go_wp2_with (first | (go_at_call 58; refine (c_timesCode a b _ xs _ _ _ (by first | (with_reducible assumption) | (with_reducible apply SlO.at; (with_reducible assumption); (repeat' (first | (with_reducible exact Below.refl _ _) | (with_reducible refine Below.alloc ?_ ?_ _) | (with_reducible refine Below.drew ?_) | (with_reducible refine below_drewN ?_ _) | (with_reducible refine Below.setCell ?_ ?_ _) | (with_reducible refine below_via ‹_› ?_ ?_) | (with_reducible refine below_grow ?_ ?_ _ _) | omega | (simp; done) | (simp; omega))); done) | (with_reducible apply SlA.at; (with_reducible assumption); (repeat' (first | (with_reducible exact Below.refl _ _) | (with_reducible refine Below.alloc ?_ ?_ _) | (with_reducible refine Below.drew ?_) | (with_reducible refine below_drewN ?_ _) | (with_reducible refine Below.setCell ?_ ?_ _) | (with_reducible refine below_via ‹_› ?_ ?_) | (with_reducible refine below_grow ?_ ?_ _ _) | omega | (simp; done) | (simp; omega))); done)) (by omega)).mono ?_; rintro e w1 ⟨rfl, hb⟩; obtain ⟨hc, hf⟩ := bcell hb; have hz := hb.size; (try simp at hz); (try have hz0 : ∀ b, b < w.heap.size → b < w1.heap.size := fun b h => by omega); (try have hz1 : w.heap.size < w1.heap.size := by omega); (try have hz2 : w.heap.size + 1 < w1.heap.size := by omega); (try have hz3 : w.heap.size + 2 < w1.heap.size := by omega)) | (go_at_call 59; refine (c_isDepth _ _).mono ?_; rintro e w' ⟨rfl, rfl⟩))
    go_ret2
    exact ⟨_, [], by simp [HC.out, HL2.out, lwC, *], by (repeat' (first | (with_reducible exact Below.refl _ _) | (with_reducible refine Below.alloc ?_ ?_ _) | (with_reducible refine Below.drew ?_) | (with_reducible refine below_drewN ?_ _) | (with_reducible refine Below.setCell ?_ ?_ _) | (with_reducible refine below_via ‹_› ?_ ?_) | (with_reducible refine below_grow ?_ ?_ _ _) | omega | (simp; done) | (simp; omega))), ⟨.inl ⟨none, 0, rfl, rfl, Nat.zero_le _⟩, fun g hg => by simp [Value.ownBlock] at hg⟩, by rw [HP.out]; exact WinC.nil _ _ _⟩
  cases hq4 : depthB nd
  · have HP := hid (show dwP a b xs d nd t z = [] by simp [dwP, dwG, *])
    have HC := hid (show dwC a b xs d nd t z = if tideB a b xs then 2 else 1 by simp [dwC, dwG, *])
    have HL1 : ((lwC a b xs t z) != 0) = (!(tideB a b xs && lwG a b xs t z)) := by simp [lwC, *]
    have HL2 := hid (show lwC a b xs t z = if tideB a b xs then (if lwG a b xs t z then 0 else 2) else 1 from rfl)
    simp only [*] at HL1
    go_enter Try.func17, Try.ntmps17
    go_wp2_with (first | (go_at_call 58; refine (c_timesCode a b _ xs _ _ _ (by first | (with_reducible assumption) | (with_reducible apply SlO.at; (with_reducible assumption); (repeat' (first | (with_reducible exact Below.refl _ _) | (with_reducible refine Below.alloc ?_ ?_ _) | (with_reducible refine Below.drew ?_) | (with_reducible refine below_drewN ?_ _) | (with_reducible refine Below.setCell ?_ ?_ _) | (with_reducible refine below_via ‹_› ?_ ?_) | (with_reducible refine below_grow ?_ ?_ _ _) | omega | (simp; done) | (simp; omega))); done) | (with_reducible apply SlA.at; (with_reducible assumption); (repeat' (first | (with_reducible exact Below.refl _ _) | (with_reducible refine Below.alloc ?_ ?_ _) | (with_reducible refine Below.drew ?_) | (with_reducible refine below_drewN ?_ _) | (with_reducible refine Below.setCell ?_ ?_ _) | (with_reducible refine below_via ‹_› ?_ ?_) | (with_reducible refine below_grow ?_ ?_ _ _) | omega | (simp; done) | (simp; omega))); done)) (by omega)).mono ?_; rintro e w1 ⟨rfl, hb⟩; obtain ⟨hc, hf⟩ := bcell hb; have hz := hb.size; (try simp at hz); (try have hz0 : ∀ b, b < w.heap.size → b < w1.heap.size := fun b h => by omega); (try have hz1 : w.heap.size < w1.heap.size := by omega); (try have hz2 : w.heap.size + 1 < w1.heap.size := by omega); (try have hz3 : w.heap.size + 2 < w1.heap.size := by omega)) | (go_at_call 59; refine (c_isDepth _ _).mono ?_; rintro e w' ⟨rfl, rfl⟩))
    go_ret2
    exact ⟨_, [], by simp [HC.out, HL2.out, lwC, *], by (repeat' (first | (with_reducible exact Below.refl _ _) | (with_reducible refine Below.alloc ?_ ?_ _) | (with_reducible refine Below.drew ?_) | (with_reducible refine below_drewN ?_ _) | (with_reducible refine Below.setCell ?_ ?_ _) | (with_reducible refine below_via ‹_› ?_ ?_) | (with_reducible refine below_grow ?_ ?_ _ _) | omega | (simp; done) | (simp; omega))), ⟨.inl ⟨none, 0, rfl, rfl, Nat.zero_le _⟩, fun g hg => by simp [Value.ownBlock] at hg⟩, by rw [HP.out]; exact WinC.nil _ _ _⟩
  have HP := hid (show dwP a b xs d nd t z = winF (deepB a b xs d nd) t (dwN t z) by simp [dwP, dwG, *])
  have HC := hid (show dwC a b xs d nd t z = 0 by simp [dwC, dwG, *])
  have HL1 := lwC_t hq1 hq2
  obtain ⟨hin1, hin2, htz⟩ := lwG_true hq2
  obtain ⟨-, e1, e2, e3, e4, e5, e6, e7, e8⟩ := tideB_true hq1
  obtain ⟨t0, t1⟩ := inB_true hin1
  obtain ⟨u0, u1⟩ := inB_true hin2
  have hdd := inB_true hq3
  obtain ⟨N, hN⟩ : ∃ N, N = dwN t z := ⟨_, rfl⟩
  have hNN : (N : Int) = z - t + 1 := by rw [hN]; unfold dwN; omega
  rw [← hN] at HP
  clear hN
  go_enter Try.func17, Try.ntmps17
  go_wp2_with (first | (go_at_call 58; refine (c_timesCode a b _ xs _ _ _ (by first | (with_reducible assumption) | (with_reducible apply SlO.at; (with_reducible assumption); (repeat' (first | (with_reducible exact Below.refl _ _) | (with_reducible refine Below.alloc ?_ ?_ _) | (with_reducible refine Below.drew ?_) | (with_reducible refine below_drewN ?_ _) | (with_reducible refine Below.setCell ?_ ?_ _) | (with_reducible refine below_via ‹_› ?_ ?_) | (with_reducible refine below_grow ?_ ?_ _ _) | omega | (simp; done) | (simp; omega))); done) | (with_reducible apply SlA.at; (with_reducible assumption); (repeat' (first | (with_reducible exact Below.refl _ _) | (with_reducible refine Below.alloc ?_ ?_ _) | (with_reducible refine Below.drew ?_) | (with_reducible refine below_drewN ?_ _) | (with_reducible refine Below.setCell ?_ ?_ _) | (with_reducible refine below_via ‹_› ?_ ?_) | (with_reducible refine below_grow ?_ ?_ _ _) | omega | (simp; done) | (simp; omega))); done)) (by omega)).mono ?_; rintro e w1 ⟨rfl, hb⟩; obtain ⟨hc, hf⟩ := bcell hb; have hz := hb.size; (try simp at hz); (try have hz0 : ∀ b, b < w.heap.size → b < w1.heap.size := fun b h => by omega); (try have hz1 : w.heap.size < w1.heap.size := by omega); (try have hz2 : w.heap.size + 1 < w1.heap.size := by omega); (try have hz3 : w.heap.size + 2 < w1.heap.size := by omega)) | (go_at_call 59; refine (c_isDepth _ _).mono ?_; rintro e w' ⟨rfl, rfl⟩))
  have hB1 : Below w.heap.size w w1 := by (repeat' (first | (with_reducible exact Below.refl _ _) | (with_reducible refine Below.alloc ?_ ?_ _) | (with_reducible refine Below.drew ?_) | (with_reducible refine below_drewN ?_ _) | (with_reducible refine Below.setCell ?_ ?_ _) | (with_reducible refine below_via ‹_› ?_ ?_) | (with_reducible refine below_grow ?_ ?_ _ _) | omega | (simp; done) | (simp; omega)))
  obtain ⟨W, hW⟩ : ∃ z, z = w1.alloc (.cells #[] 33) := ⟨_, rfl⟩
  have hA0 : Acc W w1.heap.size 33 1 encG W (.slice (some ⟨w1.heap.size, 0, none⟩) 0 0) ([] : List Nat) := by rw [hW]; exact Acc.lit (Below.refl _ _) 1 encG
  have hB0 : Below w.heap.size w W := by rw [hW]; (repeat' (first | (with_reducible exact Below.refl _ _) | (with_reducible refine Below.alloc ?_ ?_ _) | (with_reducible refine Below.drew ?_) | (with_reducible refine below_drewN ?_ _) | (with_reducible refine Below.setCell ?_ ?_ _) | (with_reducible refine below_via ‹_› ?_ ?_) | (with_reducible refine below_grow ?_ ?_ _ _) | omega | (simp; done) | (simp; omega)))
  have k0 : W.cell? ⟨w.heap.size, 0, none⟩ = some (.int .i64 a) := by rw [hW]; simp [*, go_sem]
  have k1 : W.cell? ⟨w.heap.size, 1, none⟩ = some (.int .i64 b) := by rw [hW]; simp [*, go_sem]
  have k2 : W.cell? ⟨w.heap.size, 2, none⟩ = some v := by rw [hW]; simp [*, go_sem]
  have h1 : SlA W 0 1 encI v xs := h.at hB0
  have hzW : w1.heap.size < W.heap.size := by rw [hW]; simp
  have hvb : ∀ b, v.ownBlock = some b → b ≠ w1.heap.size := fun b hb' e => by
    rcases h with ⟨a', cap, rfl, hx0, _⟩ | ⟨b', off', cap, rfl, _, _, _, _, hlt, _⟩
    · rw [hx0] at e1; simp at e1
    · simp [Value.ownBlock] at hb'; omega
  rw [← hW]
  have hz01 : w.heap.size ≤ w1.heap.size := hB1.size
  clear hW hc hf hb hz h hB1
  go_loopw [13, 14] (fun q i wr => ∃ (k : Nat) (x : Int) (gs : List Nat), x = t + k ∧ k ≤ N ∧ i = .int .i64 x ∧ Acc W w1.heap.size 33 1 encG wr q gs ∧ WinC wr W.heap.size q gs (winF (deepB a b xs d nd) t k)) (fun _ i _ => (z + 1 - intOf i).toNat)
  case atStart => exact ⟨0, t, [], by simp, by omega, rfl, hA0, WinC.nil _ _ _⟩
  case round =>
    clear hA0
    obtain ⟨k, x, gs, hx, hk, rfl, hA, hW⟩ := hrel
    have HE := hid hx
    have HA := hid hA
    have HW := hid hW
    have q0 := hA.cellAt (show w.heap.size < W.heap.size by omega) (by omega) k0
    have q1 := hA.cellAt (show w.heap.size < W.heap.size by omega) (by omega) k1
    have q2 := hA.cellAt (show w.heap.size < W.heap.size by omega) (by omega) k2
    have s1 : SlA wr 0 1 encI v xs := hA.sl h1 hvb
    have hzr := hA.size
    have hzw : w.heap.size < wr.heap.size := by omega
    have hx0 : t ≤ x := by omega
    have HO := hid hA.own.lt
    have hgl := hW.len
    have hlen : gs.length ≤ 144000000 := by have := winF_len (deepB a b xs d nd) t k; omega
    have HG := hid hgl
    obtain ⟨ad, cap, bk, off, rfl, hm, had, hcx⟩ := (hA.slo (fun _ => rfl)).1.uni
    clear hA hW hx hgl
    by_cases hlt : x ≤ z
    · have hkN : k < N := by have := HE.out; omega
      have hin := inTide_of (a := a) (b := b) (xs := xs) (t := x) (by omega) (by omega)
      have hbd := height_bd hq1 hin
      have HX1 := hid (show x + 1 = t + ((k + 1 : Nat) : Int) by have := HE.out; omega)
      cases hp : deepB a b xs d nd x
      · have hd : decide (depthV a b xs d x < nd) = true := by simp [deepB] at hp; simpa using hp
        have HF := hid (winF_no HE.out hp)
        clear hcx had hp
        go_wp2_with (first | (go_at_call 60; refine (c_Tide_depthAt a b _ xs _ _ _ (by first | (with_reducible assumption) | (with_reducible apply SlO.at; (with_reducible assumption); (repeat' (first | (with_reducible exact Below.refl _ _) | (with_reducible refine Below.alloc ?_ ?_ _) | (with_reducible refine Below.drew ?_) | (with_reducible refine below_drewN ?_ _) | (with_reducible refine Below.setCell ?_ ?_ _) | (with_reducible refine below_via ‹_› ?_ ?_) | (with_reducible refine below_grow ?_ ?_ _ _) | omega | (simp; done) | (simp; omega))); done) | (with_reducible apply SlA.at; (with_reducible assumption); (repeat' (first | (with_reducible exact Below.refl _ _) | (with_reducible refine Below.alloc ?_ ?_ _) | (with_reducible refine Below.drew ?_) | (with_reducible refine below_drewN ?_ _) | (with_reducible refine Below.setCell ?_ ?_ _) | (with_reducible refine below_via ‹_› ?_ ?_) | (with_reducible refine below_grow ?_ ?_ _ _) | omega | (simp; done) | (simp; omega))); done)) (by assumption) (by assumption) (by assumption)).mono ?_; rintro e w1 ⟨rfl, hb⟩; obtain ⟨hc, hf⟩ := bcell hb; have hz := hb.size; (try simp at hz); (try have hz0 : ∀ b, b < w.heap.size → b < w1.heap.size := fun b h => by omega); (try have hz1 : w.heap.size < w1.heap.size := by omega); (try have hz2 : w.heap.size + 1 < w1.heap.size := by omega); (try have hz3 : w.heap.size + 2 < w1.heap.size := by omega)))
        go_roundw
        case rel => exact ⟨k + 1, x + 1, gs, HX1.out, by omega, rfl, HA.out.below hb, by rw [HF.out]; exact HW.out.below hb⟩
        case measure => simp [intOf]; omega
      · have hd : decide (depthV a b xs d x < nd) = false := by simp [deepB] at hp; simpa using hp
        have HF := hid (winF_yes HE.out hp)
        clear hp
        by_cases hn : 0 < gs.length
        · obtain ⟨rfl, hbb, hlo, hcc, hmc⟩ := had hn
          have hpl : gs.length - 1 < gs.length := by omega
          have hpl' : gs.length - 1 < (winF (deepB a b xs d nd) t k).length := by rw [← HG.out]; exact hpl
          have g0 := hcx (gs.length - 1) hpl 0 (by omega)
          simp only [encG, rowV, List.getD_cons_zero, Nat.add_zero, Nat.mul_one] at g0
          have g1 := HW.out.c1 (gs.length - 1) hpl hpl'
          have gl := (HW.out.lo (gs.length - 1) hpl).2
          have gf := HW.out.fz (gs.length - 1) hpl 1
          have hkI : (0 : Int) < gs.length := by omega
          have hkd : decide (0 < gs.length) = true := by simp; omega
          have hkn := pred_nat (k := gs.length) hn
          have hkw := pred_wrap (k := gs.length) (n := gs.length) hn (Nat.le_refl _) hm
          have hk1 : (1 : Int) ≤ gs.length := by omega
          clear hcx had
          by_cases he : ((winF (deepB a b xs d nd) t k)[gs.length - 1]).2 = x - 1
          · have heB : (((winF (deepB a b xs d nd) t k)[gs.length - 1]).2 == x - 1) = true := by simpa using he
            have HX := hid he
            clear he
            go_wp2_with (first | (go_at_call 60; refine (c_Tide_depthAt a b _ xs _ _ _ (by first | (with_reducible assumption) | (with_reducible apply SlO.at; (with_reducible assumption); (repeat' (first | (with_reducible exact Below.refl _ _) | (with_reducible refine Below.alloc ?_ ?_ _) | (with_reducible refine Below.drew ?_) | (with_reducible refine below_drewN ?_ _) | (with_reducible refine Below.setCell ?_ ?_ _) | (with_reducible refine below_via ‹_› ?_ ?_) | (with_reducible refine below_grow ?_ ?_ _ _) | omega | (simp; done) | (simp; omega))); done) | (with_reducible apply SlA.at; (with_reducible assumption); (repeat' (first | (with_reducible exact Below.refl _ _) | (with_reducible refine Below.alloc ?_ ?_ _) | (with_reducible refine Below.drew ?_) | (with_reducible refine below_drewN ?_ _) | (with_reducible refine Below.setCell ?_ ?_ _) | (with_reducible refine below_via ‹_› ?_ ?_) | (with_reducible refine below_grow ?_ ?_ _ _) | omega | (simp; done) | (simp; omega))); done)) (by assumption) (by assumption) (by assumption)).mono ?_; rintro e w1 ⟨rfl, hb⟩; obtain ⟨hc, hf⟩ := bcell hb; have hz := hb.size; (try simp at hz); (try have hz0 : ∀ b, b < w.heap.size → b < w1.heap.size := fun b h => by omega); (try have hz1 : w.heap.size < w1.heap.size := by omega); (try have hz2 : w.heap.size + 1 < w1.heap.size := by omega); (try have hz3 : w.heap.size + 2 < w1.heap.size := by omega)))
            go_roundw
            case rel => exact ⟨k + 1, x + 1, gs, HX1.out, by omega, rfl, (HA.out.below hb).setOther _ _ (fun b hb' e => HW.out.ne (gs.length - 1) hpl (by rw [hb', e])) (HW.out.lo (gs.length - 1) hpl).1, by rw [HF.out, winS_ext' HG.out hn HX.out]; exact (HW.out.below hb).setTo hpl hpl' x⟩
            case measure => simp [intOf]; omega
          · have heB : (((winF (deepB a b xs d nd) t k)[gs.length - 1]).2 == x - 1) = false := by simpa using he
            have HX := hid he
            clear he
            go_wp2_with (first | (go_at_call 60; refine (c_Tide_depthAt a b _ xs _ _ _ (by first | (with_reducible assumption) | (with_reducible apply SlO.at; (with_reducible assumption); (repeat' (first | (with_reducible exact Below.refl _ _) | (with_reducible refine Below.alloc ?_ ?_ _) | (with_reducible refine Below.drew ?_) | (with_reducible refine below_drewN ?_ _) | (with_reducible refine Below.setCell ?_ ?_ _) | (with_reducible refine below_via ‹_› ?_ ?_) | (with_reducible refine below_grow ?_ ?_ _ _) | omega | (simp; done) | (simp; omega))); done) | (with_reducible apply SlA.at; (with_reducible assumption); (repeat' (first | (with_reducible exact Below.refl _ _) | (with_reducible refine Below.alloc ?_ ?_ _) | (with_reducible refine Below.drew ?_) | (with_reducible refine below_drewN ?_ _) | (with_reducible refine Below.setCell ?_ ?_ _) | (with_reducible refine below_via ‹_› ?_ ?_) | (with_reducible refine below_grow ?_ ?_ _ _) | omega | (simp; done) | (simp; omega))); done)) (by assumption) (by assumption) (by assumption)).mono ?_; rintro e w1 ⟨rfl, hb⟩; obtain ⟨hc, hf⟩ := bcell hb; have hz := hb.size; (try simp at hz); (try have hz0 : ∀ b, b < w.heap.size → b < w1.heap.size := fun b h => by omega); (try have hz1 : w.heap.size < w1.heap.size := by omega); (try have hz2 : w.heap.size + 1 < w1.heap.size := by omega); (try have hz3 : w.heap.size + 2 < w1.heap.size := by omega)) | (at_builtin; refine wpList_pushG rfl (.tmp 40) (.tmp 44) 38 rfl i0 (.slice none 0 0) 24 Try.underlying38 hi iz0 iz1 iz2 rfl (by decide) (fun _ => rfl) w1.heap.size rfl HA.out (by (repeat' (first | (with_reducible exact Below.refl _ _) | (with_reducible refine Below.alloc ?_ ?_ _) | (with_reducible refine Below.drew ?_) | (with_reducible refine below_drewN ?_ _) | (with_reducible refine Below.setCell ?_ ?_ _) | (with_reducible refine below_via ‹_› ?_ ?_) | (with_reducible refine below_grow ?_ ?_ _ _) | omega | (simp; done) | (simp; omega)))) 33 1 (by first | rfl | (show Value.slice _ _ _ = Value.slice _ _ _; simp)) (one_encG _) (by unfold maxLen; omega) (by omega) ?_; intro v1 w2 hA1 hg1 hat1))
            go_roundw
            case rel => exact ⟨k + 1, x + 1, _, HX1.out, by omega, rfl, hA1, by rw [HF.out, winS_new' HG.out (fun _ => HX.out)]; exact (HW.out.below hb).push (by omega) rfl (fun b hb' => by have := (HO.out b hb').2; omega) hg1 (hat1.imp id (fun e => by rw [e, World.size_alloc]))⟩
            case measure => simp [intOf]; omega
        · have hn0 : gs = [] := List.eq_nil_of_length_eq_zero (by omega)
          clear hcx had
          subst hn0
          go_wp2_with (first | (go_at_call 60; refine (c_Tide_depthAt a b _ xs _ _ _ (by first | (with_reducible assumption) | (with_reducible apply SlO.at; (with_reducible assumption); (repeat' (first | (with_reducible exact Below.refl _ _) | (with_reducible refine Below.alloc ?_ ?_ _) | (with_reducible refine Below.drew ?_) | (with_reducible refine below_drewN ?_ _) | (with_reducible refine Below.setCell ?_ ?_ _) | (with_reducible refine below_via ‹_› ?_ ?_) | (with_reducible refine below_grow ?_ ?_ _ _) | omega | (simp; done) | (simp; omega))); done) | (with_reducible apply SlA.at; (with_reducible assumption); (repeat' (first | (with_reducible exact Below.refl _ _) | (with_reducible refine Below.alloc ?_ ?_ _) | (with_reducible refine Below.drew ?_) | (with_reducible refine below_drewN ?_ _) | (with_reducible refine Below.setCell ?_ ?_ _) | (with_reducible refine below_via ‹_› ?_ ?_) | (with_reducible refine below_grow ?_ ?_ _ _) | omega | (simp; done) | (simp; omega))); done)) (by assumption) (by assumption) (by assumption)).mono ?_; rintro e w1 ⟨rfl, hb⟩; obtain ⟨hc, hf⟩ := bcell hb; have hz := hb.size; (try simp at hz); (try have hz0 : ∀ b, b < w.heap.size → b < w1.heap.size := fun b h => by omega); (try have hz1 : w.heap.size < w1.heap.size := by omega); (try have hz2 : w.heap.size + 1 < w1.heap.size := by omega); (try have hz3 : w.heap.size + 2 < w1.heap.size := by omega)) | (at_builtin; refine wpList_pushG rfl (.tmp 40) (.tmp 44) 38 rfl i0 (.slice none 0 0) 24 Try.underlying38 hi iz0 iz1 iz2 rfl (by decide) (fun _ => rfl) w1.heap.size rfl HA.out (by (repeat' (first | (with_reducible exact Below.refl _ _) | (with_reducible refine Below.alloc ?_ ?_ _) | (with_reducible refine Below.drew ?_) | (with_reducible refine below_drewN ?_ _) | (with_reducible refine Below.setCell ?_ ?_ _) | (with_reducible refine below_via ‹_› ?_ ?_) | (with_reducible refine below_grow ?_ ?_ _ _) | omega | (simp; done) | (simp; omega)))) 33 1 (by first | rfl | (show Value.slice _ _ _ = Value.slice _ _ _; simp)) (one_encG _) (by unfold maxLen; omega) (by omega) ?_; intro v1 w2 hA1 hg1 hat1))
          go_roundw
          case rel => exact ⟨k + 1, x + 1, _, HX1.out, by omega, rfl, hA1, by rw [HF.out, winS_new' HG.out (fun hp => by simp at hp)]; exact (HW.out.below hb).push (by omega) rfl (fun b hb' => by have := (HO.out b hb').2; omega) hg1 (hat1.imp id (fun e => by rw [e, World.size_alloc]))⟩
          case measure => simp [intOf]; omega
    · have hkN : k = N := by have := HE.out; omega
      subst hkN
      clear hcx had
      go_wp2
      go_ret2
      have := HA.out.done (fun _ => rfl) hB0 (by omega)
      exact ⟨_, by rw [HC.out]; rfl, this.1, gs, this.2, by rw [HP.out]; exact HW.out.mono (by omega)⟩
end Go.Proofs.Ytgdkaadlhpehlaa
