/- Marks of a slice of corrections: nothing fails, and only its own blocks turn. Printed by wip/mkmarkc.py. -/
import Derived.Test.YtjibilibdjfdcaaNCorrD
import Derived.Test.YtjibilibdjfdcaaMarkT
import Derived.Test.YtjibilibdjfdcaaKept
namespace Go.Proofs.Ytjibilibdjfdcaa
open Go.RowKit Go.Sort
set_option linter.unusedVariables false
set_option maxRecDepth 100000

/-- what was there is there still -/
structure Live (w w' : World) : Prop where
  size : w.heap.size ≤ w'.heap.size
  cell : ∀ b o u, w.cell? ⟨b, o, none⟩ = some u → ∃ u', w'.cell? ⟨b, o, none⟩ = some u'
  fr : ∀ b o, b < w.heap.size → w'.frozen? ⟨b, o, none⟩ = w.frozen? ⟨b, o, none⟩
theorem Live.refl (w : World) : Live w w := ⟨Nat.le_refl _, fun _ _ u h => ⟨u, h⟩, fun _ _ _ => rfl⟩
theorem Live.trans {a b c : World} (h : Live a b) (k : Live b c) : Live a c :=
  ⟨Nat.le_trans h.size k.size, fun x o u hu => by obtain ⟨u1, h1⟩ := h.cell x o u hu; exact k.cell x o u1 h1, fun x o hx => (k.fr x o (Nat.lt_of_lt_of_le hx h.size)).trans (h.fr x o hx)⟩
theorem Live.set {a b : World} (h : Live a b) (p : Addr) (u : Value) : Live a (b.setCell p u) :=
  ⟨by simpa [World.setCell] using h.size, fun x o v hv => by obtain ⟨u1, h1⟩ := h.cell x o v hv; exact cell?_setCell_some h1, fun x o hx => by rw [World.frozen?_setCell]; exact h.fr x o hx⟩
theorem Live.below {a b c : World} (h : Live a b) (hb : Below b.heap.size b c) : Live a c :=
  h.trans ⟨hb.size, fun x o u hu => ⟨u, (hb.cell (p := ⟨x, o, none⟩) (World.block_lt_of_cell? b _ hu)).trans hu⟩, fun x o hx => hb.frozen (p := ⟨x, o, none⟩) hx⟩
/-- a slice whose cells are there -/
def ExO (w : World) (n : Nat) (v : Value) (len : Nat) : Prop := ∃ ad cap, v = .slice ad len cap ∧ len ≤ 9223372036854775807 ∧ (0 < len → ∃ b off, ad = some ⟨b, off, none⟩ ∧ b < w.heap.size ∧ len ≤ cap ∧ cap ≤ 9223372036854775807 ∧ (∀ j, w.frozen? ⟨b, j, none⟩ = false) ∧ ∀ j, j < len * n → ∃ u, w.cell? ⟨b, off + j, none⟩ = some u)
theorem ExO.of {α : Type} {w : World} {lo n : Nat} {enc : α → List Value} {v : Value} {xs : List α} (h : SlO w lo n enc v xs) (hn : 0 < n) : ExO w n v xs.length := by
  obtain ⟨ad, cap, b, off, rfl, hm, had, hx⟩ := h.1.uni
  refine ⟨ad, cap, rfl, hm, fun hp => ?_⟩
  obtain ⟨rfl, hb, -, hc, hcm⟩ := had hp
  refine ⟨b, off, rfl, hb, hc, hcm, fun j => (h.2 b rfl).2.2 j, fun j hj => ?_⟩
  have h1 : j / n < xs.length := Nat.div_lt_of_lt_mul (by rw [Nat.mul_comm]; exact hj)
  have := hx (j / n) h1 (j % n) (Nat.mod_lt _ hn)
  rw [Nat.add_assoc, Nat.mul_comm (j / n) n, Nat.div_add_mod] at this
  exact ⟨_, this⟩
theorem ExO.live {w w' : World} {n len : Nat} {v : Value} (h : ExO w n v len) (k : Live w w') : ExO w' n v len := by
  obtain ⟨ad, cap, rfl, hm, had⟩ := h
  refine ⟨ad, cap, rfl, hm, fun hp => ?_⟩
  obtain ⟨b, off, rfl, hb, hc, hcm, hf, hx⟩ := had hp
  exact ⟨b, off, rfl, Nat.lt_of_lt_of_le hb k.size, hc, hcm, fun j => (k.fr b j hb).trans (hf j), fun j hj => by obtain ⟨u, hu⟩ := hx j hj; exact k.cell _ _ _ hu⟩
def MkE (v : Value) (q : Int) (w : World) (e : Ending) (w' : World) : Prop := e = .returned (.int .i64 q) ∧ Kept (fun b => v.ownBlock = some b) w w' ∧ Live w w'
set_option maxHeartbeats 2000000 in
theorem c_markInt64E (v : Value) (n : Nat) (m : Int) (w : World) (h : ExO w 1 v n) (hl : n ≤ 1099511627776) (h0 : 0 ≤ m) (h1 : m ≤ 1099511627776) :
    Calls Try.prog 17 #[v, .int .i64 m] w (MkE v (m + n) w) := by
  obtain ⟨ad, cap, rfl, hm, had⟩ := h
  go_enter Try.func17, Try.ntmps17
  go_wp2
  go_loopw [1, 5] (fun q i wr => ∃ k : Nat, k ≤ n ∧ i = .int .i64 k ∧ q = .int .i64 (m + k) ∧ Kept (fun b => (Value.slice ad n cap).ownBlock = some b) w wr ∧ Live w wr) (fun _ i _ => n - (intOf i).toNat)
  case atStart => exact ⟨0, Nat.zero_le _, rfl, by simp, Kept.refl _ _, Live.refl _⟩
  case round =>
    obtain ⟨k, hk, rfl, rfl, hK, hL⟩ := hrel
    by_cases hlt : k < n
    · obtain ⟨b, off, rfl, hb, hcc, hcm, hf, hx⟩ := had (by omega)
      have hlI : (k : Int) < n := by omega
      obtain ⟨u0, hu0⟩ := hx k (by omega)
      obtain ⟨u1, hu1⟩ := hL.cell _ _ _ hu0
      have hfz := (hL.fr b (off + k) hb).trans (hf _)
      have HK := hid (hK.set ⟨b, off + k, none⟩ (.int .i64 (m + k)) rfl)
      have HL := hid (hL.set ⟨b, off + k, none⟩ (.int .i64 (m + k)))
      clear hx hf hu0 hK hL had
      go_wp2
      go_roundw
      case rel => exact ⟨k + 1, by omega, by go_num, by go_num, HK.out, HL.out⟩
      case measure => simp [intOf]; omega
    · have e : k = n := by omega
      subst e
      go_wp2
      go_ret
      exact ⟨rfl, hK, hL⟩
set_option maxHeartbeats 4000000 in
theorem c_markSectorE (v : Value) (n : Nat) (m : Int) (w : World) (h : ExO w 3 v n) (hl : n ≤ 1099511627776) (h0 : 0 ≤ m) (h1 : m ≤ 1099511627776) :
    Calls Try.prog 30 #[v, .int .i64 m] w (MkE v (m + 3 * n) w) := by
  obtain ⟨ad, cap, rfl, hm, had⟩ := h
  go_enter Try.func30, Try.ntmps30
  go_wp2
  go_loopw [1, 5] (fun q i wr => ∃ k : Nat, k ≤ n ∧ i = .int .i64 k ∧ q = .int .i64 (m + 3 * k) ∧ Kept (fun b => (Value.slice ad n cap).ownBlock = some b) w wr ∧ Live w wr) (fun _ i _ => n - (intOf i).toNat)
  case atStart => exact ⟨0, Nat.zero_le _, rfl, by simp, Kept.refl _ _, Live.refl _⟩
  case round =>
    obtain ⟨k, hk, rfl, rfl, hK, hL⟩ := hrel
    by_cases hlt : k < n
    · obtain ⟨b, off, rfl, hb, hcc, hcm, hf, hx⟩ := had (by omega)
      have hlI : (k : Int) < n := by omega
      have hbr : b < wr.heap.size := Nat.lt_of_lt_of_le hb hL.size
      have e0 := hx (k * 3) (by omega)
      have e1 := hx (k * 3 + 1) (by omega)
      have e2 := hx (k * 3 + 2) (by omega)
      simp only [← Nat.add_assoc] at e0 e1 e2
      obtain ⟨u0, hu0⟩ := e0
      obtain ⟨u1, hu1⟩ := e1
      obtain ⟨u2, hu2⟩ := e2
      obtain ⟨y0, hy0⟩ := hL.cell _ _ _ hu0
      obtain ⟨y1, hy1⟩ := hL.cell _ _ _ hu1
      have hfz : ∀ j, wr.frozen? ⟨b, j, none⟩ = false := fun j => (hL.fr b j hb).trans (hf j)
      have HF := hid hf
      have HU2 := hid hu2
      have HK := hid hK
      have HL := hid hL
      clear hx hf hu0 hu1 hu2 hK hL had
      go_wp2_with fail
      refine (c_markText _ _ (by omega) (by omega)).mono ?_
      rintro e w1 ⟨rfl, hb1⟩
      have hz1 := hb1.size
      (try simp at hz1)
      have hbr1 : b < w1.heap.size := by omega
      have K2 : Kept (fun c => (Value.slice (some ⟨b, off, none⟩) n cap).ownBlock = some c) w w1 := ((HK.out.set ⟨b, off + k * 3, none⟩ (.int .i64 (m + 3 * k)) rfl).set ⟨b, off + k * 3 + 1, none⟩ (.int .i64 (m + 3 * k + 1)) rfl).trans (Kept.of hb1)
      have L2 : Live w w1 := ((HL.out.set ⟨b, off + k * 3, none⟩ (.int .i64 (m + 3 * k))).set ⟨b, off + k * 3 + 1, none⟩ (.int .i64 (m + 3 * k + 1))).below hb1
      obtain ⟨y2, hy2⟩ := L2.cell _ _ _ HU2.out
      have hfz2 : ∀ j, w1.frozen? ⟨b, j, none⟩ = false := fun j => (L2.fr b j hb).trans (HF.out j)
      obtain ⟨tx, htx⟩ : ∃ z, z = mkB (m + 3 * k + 1 + 1) := ⟨_, rfl⟩
      rw [← htx]
      have HK2 := hid (K2.set ⟨b, off + k * 3 + 2, none⟩ (.string tx) rfl)
      have HL2 := hid (L2.set ⟨b, off + k * 3 + 2, none⟩ (.string tx))
      clear K2 L2 hb1 hfz hy0 hy1 HK HL htx
      go_wp2_with fail
      go_roundw
      case rel => exact ⟨k + 1, by omega, by go_num, by go_num, HK2.out, HL2.out⟩
      case measure => simp [intOf]; omega
    · have e : k = n := by omega
      subst e
      go_wp2
      go_ret
      exact ⟨rfl, hK, hL⟩
def wgt (x : CorrectionD) : Int := 15 + x.fAidLightGroup.length + 3 * x.fAidSectors.length
def msum : List CorrectionD → Int
  | [] => 0
  | x :: l => wgt x + msum l
theorem wgt_nn (x : CorrectionD) : 15 ≤ wgt x := by unfold wgt; omega
theorem msum_nn : ∀ l : List CorrectionD, 0 ≤ msum l
  | [] => by simp [msum]
  | x :: l => by have := msum_nn l; have := wgt_nn x; rw [msum]; omega
def grpV (x : CorrectionD) : Value := .slice x.aAidLightGroup x.fAidLightGroup.length x.cAidLightGroup
def secV (x : CorrectionD) : Value := .slice x.aAidSectors x.fAidSectors.length x.cAidSectors
/-- while element k is marked -/
structure Inv (M : Nat → Prop) (w : World) (b off : Nat) (xs : List CorrectionD) (k : Nat) (x : CorrectionD) (W : World) : Prop where
  kept : Kept M w W
  live : Live w W
  grp : W.cell? ⟨b, off + k * 17 + 11, none⟩ = some (grpV x)
  sec : W.cell? ⟨b, off + k * 17 + 15, none⟩ = some (secV x)
  rest : ∀ i, (hi : i < xs.length) → k < i → ∀ j, j < 17 → W.cell? ⟨b, off + i * 17 + j, none⟩ = some ((encCorrection xs[i]).getD j undef)
theorem cell_set_ne {w : World} {b o o' : Nat} {u v : Value} (h : w.cell? ⟨b, o, none⟩ = some u) (hne : o ≠ o') : (w.setCell ⟨b, o', none⟩ v).cell? ⟨b, o, none⟩ = some u := by
  rw [World.cell?_setCell_other w _ _ _ (fun hh => hne (by simpa using (Addr.mk.injEq .. ▸ hh).2.1.symm))]; exact h
theorem Inv.set {M : Nat → Prop} {w W : World} {b off k : Nat} {xs : List CorrectionD} {x : CorrectionD} (h : Inv M w b off xs k x W) (hM : M b) (j : Nat) (hj : j < 17) (h1 : j ≠ 11) (h2 : j ≠ 15) (u : Value) : Inv M w b off xs k x (W.setCell ⟨b, off + k * 17 + j, none⟩ u) :=
  ⟨h.kept.set _ u hM, h.live.set _ u, cell_set_ne h.grp (by omega), cell_set_ne h.sec (by omega), fun i hi hk j' hj' => cell_set_ne (h.rest i hi hk j' hj') (by omega)⟩
theorem Inv.set0 {M : Nat → Prop} {w W : World} {b off k : Nat} {xs : List CorrectionD} {x : CorrectionD} (h : Inv M w b off xs k x W) (hM : M b) (u : Value) : Inv M w b off xs k x (W.setCell ⟨b, off + k * 17, none⟩ u) := h.set hM 0 (by omega) (by omega) (by omega) u
theorem Inv.below {M : Nat → Prop} {w W W' : World} {b off k : Nat} {xs : List CorrectionD} {x : CorrectionD} (h : Inv M w b off xs k x W) (hb : Below W.heap.size W W') : Inv M w b off xs k x W' :=
  ⟨h.kept.trans (Kept.of hb), h.live.below hb, (hb.cell (p := ⟨b, _, none⟩) (World.block_lt_of_cell? W _ h.grp)).trans h.grp, (hb.cell (p := ⟨b, _, none⟩) (World.block_lt_of_cell? W _ h.sec)).trans h.sec, fun i hi hk j hj => (hb.cell (p := ⟨b, _, none⟩) (World.block_lt_of_cell? W _ (h.rest i hi hk j hj))).trans (h.rest i hi hk j hj)⟩
theorem Inv.mark {M : Nat → Prop} {w W W' : World} {b off k : Nat} {xs : List CorrectionD} {x : CorrectionD} (h : Inv M w b off xs k x W) {s : Value} (hs : ∀ c, s.ownBlock = some c → M c ∧ c ≠ b) (hK : Kept (fun c => s.ownBlock = some c) W W') (hL : Live W W') : Inv M w b off xs k x W' :=
  have hb : b < W.heap.size := World.block_lt_of_cell? W _ h.grp
  have hn : ¬ s.ownBlock = some b := fun e => (hs b e).2 rfl
  ⟨h.kept.trans (hK.mono fun c hc => (hs c hc).1), h.live.trans hL, hK.cell hb hn h.grp, hK.cell hb hn h.sec, fun i hi hk j hj => hK.cell hb hn (h.rest i hi hk j hj)⟩
theorem msum_take {xs : List CorrectionD} : ∀ {k : Nat}, (h : k < xs.length) → msum (xs.take (k + 1)) = msum (xs.take k) + wgt xs[k] := by
  induction xs with
  | nil => intro k h; simp at h
  | cons x l ih =>
    intro k h
    cases k with
    | zero => simp [msum]
    | succ k =>
      have := ih (k := k) (by simpa using h)
      simp only [List.take_succ_cons, msum, List.getElem_cons_succ] at this ⊢
      omega
theorem msum_le {xs : List CorrectionD} (k : Nat) : msum (xs.take k) ≤ msum xs := by
  induction xs generalizing k with
  | nil => simp [msum]
  | cons x l ih =>
    cases k with
    | zero => have := msum_nn l; have := wgt_nn x; simp only [List.take_zero, msum]; omega
    | succ k => have := ih k; simp only [List.take_succ_cons, msum]; omega
set_option maxHeartbeats 16000000 in
theorem c_markCorrectionS (v : Value) (xs : List CorrectionD) (m : Int) (M : Nat → Prop) (w : World) (h : SlA w 0 17 encCorrection v xs) (hfr : ∀ c, v.ownBlock = some c → M c ∧ ∀ j, w.frozen? ⟨c, j, none⟩ = false)
    (hG : ∀ x ∈ xs, ExO w 1 (grpV x) x.fAidLightGroup.length ∧ ∀ c, (grpV x).ownBlock = some c → M c ∧ v.ownBlock ≠ some c) (hS : ∀ x ∈ xs, ExO w 3 (secV x) x.fAidSectors.length ∧ ∀ c, (secV x).ownBlock = some c → M c ∧ v.ownBlock ≠ some c)
    (h0 : 0 ≤ m) (h1 : m + msum xs ≤ 1099511000000) :
    Calls Try.prog 16 #[v, .int .i64 m] w fun e w' => e = .returned (.int .i64 (m + msum xs)) ∧ Kept M w w' := by
  obtain ⟨ad, cap, b, off, rfl, hmx, had, hx⟩ := h.uni
  clear h
  go_enter Try.func16, Try.ntmps16
  go_wp2_with fail
  go_loopw [1, 5] (fun q i wr => ∃ k : Nat, k ≤ xs.length ∧ i = .int .i64 k ∧ q = .int .i64 (m + msum (xs.take k)) ∧ Kept M w wr ∧ Live w wr ∧ Hid (∀ i, (hi : i < xs.length) → k ≤ i → ∀ j, j < 17 → wr.cell? ⟨b, off + i * 17 + j, none⟩ = some ((encCorrection xs[i]).getD j undef))) (fun _ i _ => xs.length - (intOf i).toNat)
  case atStart => exact ⟨0, Nat.zero_le _, rfl, by simp [msum], Kept.refl _ _, Live.refl _, hid (fun i hi _ j hj => hx i hi j hj)⟩
  case round =>
    obtain ⟨k, hk, rfl, rfl, hK, hL, hR⟩ := hrel
    by_cases hlt : k < xs.length
    · obtain ⟨rfl, hb, -, hcc, hcm⟩ := had (by omega)
      have hlI : (k : Int) < xs.length := by omega
      have hM := (hfr b rfl).1
      have HF := hid (hfr b rfl).2
      obtain ⟨hg1, hg2⟩ := hG xs[k] (List.getElem_mem hlt)
      obtain ⟨hs1, hs2⟩ := hS xs[k] (List.getElem_mem hlt)
      have hw := msum_take hlt
      have hle := msum_le (xs := xs) (k + 1)
      have hq0 := msum_nn (xs.take k)
      have HU0 := hid (show w.cell? ⟨b, off + k * 17, none⟩ = _ from hx k hlt 0 (by omega))
      have HU1 := hid (hx k hlt 1 (by omega))
      have HU2 := hid (hx k hlt 2 (by omega))
      have HU3 := hid (hx k hlt 3 (by omega))
      have HU4 := hid (hx k hlt 4 (by omega))
      have HU5 := hid (hx k hlt 5 (by omega))
      have HU6 := hid (hx k hlt 6 (by omega))
      have HU7 := hid (hx k hlt 7 (by omega))
      have HU8 := hid (hx k hlt 8 (by omega))
      have HU9 := hid (hx k hlt 9 (by omega))
      have HU10 := hid (hx k hlt 10 (by omega))
      have HU11 := hid (hx k hlt 11 (by omega))
      have HU12 := hid (hx k hlt 12 (by omega))
      have HU13 := hid (hx k hlt 13 (by omega))
      have HU14 := hid (hx k hlt 14 (by omega))
      have HU15 := hid (hx k hlt 15 (by omega))
      have HU16 := hid (hx k hlt 16 (by omega))
      have c11 := hR.out k hlt (Nat.le_refl _) 11 (by omega)
      have c15 := hR.out k hlt (Nat.le_refl _) 15 (by omega)
      obtain ⟨x, hxk⟩ : ∃ x, x = xs[k] := ⟨_, rfl⟩
      rw [← hxk] at hg1 hg2 hs1 hs2 hw c11 c15
      have I0 : Inv M w b off xs k x wr := ⟨hK, hL, c11, c15, fun i hi hki => hR.out i hi (by omega)⟩
      have HEG := hid hg1
      have HES := hid hs1
      have HMG := hid (show ∀ c, (grpV x).ownBlock = some c → M c ∧ c ≠ b from fun c hc => ⟨(hg2 c hc).1, fun e => (hg2 c hc).2 (by rw [e]; rfl)⟩)
      have HMS := hid (show ∀ c, (secV x).ownBlock = some c → M c ∧ c ≠ b from fun c hc => ⟨(hs2 c hc).1, fun e => (hs2 c hc).2 (by rw [e]; rfl)⟩)
      have hg3 : 0 ≤ (x.fAidLightGroup.length : Int) := by omega
      have hs3 : 0 ≤ (x.fAidSectors.length : Int) := by omega
      have hwx : wgt x = 15 + x.fAidLightGroup.length + 3 * x.fAidSectors.length := rfl
      obtain ⟨Q, hQ⟩ : ∃ Q, Q = m + msum (xs.take k) := ⟨_, rfl⟩
      have hQ0 : 0 ≤ Q := by omega
      have hQ1 : Q + (15 + x.fAidLightGroup.length + 3 * x.fAidSectors.length) ≤ 1099511000000 := by omega
      have HW := hid (show m + msum (xs.take (k + 1)) = Q + wgt x by omega)
      rw [← hQ]
      clear hx had hfr hG hS hg1 hg2 hs1 hs2 hw hle hq0 hK hL hR c11 c15 hxk hwx hQ
      obtain ⟨y0, hy0⟩ := I0.live.cell _ _ _ HU0.out
      obtain ⟨y1, hy1⟩ := I0.live.cell _ _ _ HU1.out
      have hfz := fun j => (I0.live.fr b j hb).trans (HF.out j)
      have HI := hid I0
      clear I0
      have J1 := (Inv.set (Inv.set0 HI.out hM (.int .i64 (Q))) hM 1 (by omega) (by omega) (by omega) (.int .i64 (Q + 1)))
      have HJ1 := hid J1
      clear J1 HI
      go_wp2_with fail
      refine (c_markText _ _ (by omega) (by omega)).mono ?_
      rintro e w1 ⟨rfl, hb1⟩
      obtain ⟨t2, ht2⟩ : ∃ z, z = mkB (Q + 1 + 1) := ⟨_, rfl⟩
      rw [← ht2]
      have I1 := HJ1.out.below hb1
      clear hb1 ht2 HJ1 hfz hy0 hy1 
      obtain ⟨y2, hy2⟩ := I1.live.cell _ _ _ HU2.out
      obtain ⟨y3, hy3⟩ := I1.live.cell _ _ _ HU3.out
      obtain ⟨y4, hy4⟩ := I1.live.cell _ _ _ HU4.out
      obtain ⟨y5, hy5⟩ := I1.live.cell _ _ _ HU5.out
      obtain ⟨y6, hy6⟩ := I1.live.cell _ _ _ HU6.out
      have hfz := fun j => (I1.live.fr b j hb).trans (HF.out j)
      have HI := hid I1
      clear I1
      have J2 := (Inv.set (Inv.set (Inv.set (Inv.set (Inv.set HI.out hM 2 (by omega) (by omega) (by omega) (.string t2)) hM 3 (by omega) (by omega) (by omega) (.int .i64 (Q + 1 + 1 + 1))) hM 4 (by omega) (by omega) (by omega) (.int .i64 (Q + 1 + 1 + 1 + 1))) hM 5 (by omega) (by omega) (by omega) (.int .i64 (Q + 1 + 1 + 1 + 1 + 1))) hM 6 (by omega) (by omega) (by omega) (.int .i64 (Q + 1 + 1 + 1 + 1 + 1 + 1)))
      have HJ2 := hid J2
      clear J2 HI
      go_wp2_with fail
      refine (c_markText _ _ (by omega) (by omega)).mono ?_
      rintro e w2 ⟨rfl, hb2⟩
      obtain ⟨t7, ht7⟩ : ∃ z, z = mkB (Q + 1 + 1 + 1 + 1 + 1 + 1 + 1) := ⟨_, rfl⟩
      rw [← ht7]
      have I2 := HJ2.out.below hb2
      clear hb2 ht7 HJ2 hfz hy2 hy3 hy4 hy5 hy6 
      obtain ⟨y7, hy7⟩ := I2.live.cell _ _ _ HU7.out
      have hfz := fun j => (I2.live.fr b j hb).trans (HF.out j)
      have HI := hid I2
      clear I2
      have J3 := (Inv.set HI.out hM 7 (by omega) (by omega) (by omega) (.string t7))
      have HJ3 := hid J3
      clear J3 HI
      go_wp2_with fail
      refine (c_markText _ _ (by omega) (by omega)).mono ?_
      rintro e w3 ⟨rfl, hb3⟩
      obtain ⟨t8, ht8⟩ : ∃ z, z = mkB (Q + 1 + 1 + 1 + 1 + 1 + 1 + 1 + 1) := ⟨_, rfl⟩
      rw [← ht8]
      have I3 := HJ3.out.below hb3
      clear hb3 ht8 HJ3 hfz hy7 
      obtain ⟨y8, hy8⟩ := I3.live.cell _ _ _ HU8.out
      have hfz := fun j => (I3.live.fr b j hb).trans (HF.out j)
      have HI := hid I3
      clear I3
      have J4 := (Inv.set HI.out hM 8 (by omega) (by omega) (by omega) (.string t8))
      have HJ4 := hid J4
      clear J4 HI
      go_wp2_with fail
      refine (c_markText _ _ (by omega) (by omega)).mono ?_
      rintro e w4 ⟨rfl, hb4⟩
      obtain ⟨t9, ht9⟩ : ∃ z, z = mkB (Q + 1 + 1 + 1 + 1 + 1 + 1 + 1 + 1 + 1) := ⟨_, rfl⟩
      rw [← ht9]
      have I4 := HJ4.out.below hb4
      clear hb4 ht9 HJ4 hfz hy8 
      obtain ⟨y9, hy9⟩ := I4.live.cell _ _ _ HU9.out
      obtain ⟨y10, hy10⟩ := I4.live.cell _ _ _ HU10.out
      have hfz := fun j => (I4.live.fr b j hb).trans (HF.out j)
      have HI := hid I4
      clear I4
      have J5 := (Inv.set (Inv.set HI.out hM 9 (by omega) (by omega) (by omega) (.string t9)) hM 10 (by omega) (by omega) (by omega) (.int .i64 (Q + 1 + 1 + 1 + 1 + 1 + 1 + 1 + 1 + 1 + 1)))
      have HJ5 := hid J5
      have hl5 := J5.grp
      clear J5 HI
      go_wp2_with fail
      refine (c_markInt64E (grpV x) x.fAidLightGroup.length _ _ (HEG.out.live HJ5.out.live) (by omega) (by omega) (by omega)).mono ?_
      rintro e w5 ⟨rfl, hk5, hv5⟩
      have I5 := HJ5.out.mark HMG.out hk5 hv5
      clear hk5 hv5 HJ5 hl5 hfz hy9 hy10 
      have hfz := fun j => (I5.live.fr b j hb).trans (HF.out j)
      have HI := hid I5
      clear I5
      have J6 := HI.out
      have HJ6 := hid J6
      clear J6 HI
      go_wp2_with fail
      refine (c_markText _ _ (by omega) (by omega)).mono ?_
      rintro e w6 ⟨rfl, hb6⟩
      obtain ⟨t12, ht12⟩ : ∃ z, z = mkB (Q + 1 + 1 + 1 + 1 + 1 + 1 + 1 + 1 + 1 + 1 + 1 + x.fAidLightGroup.length) := ⟨_, rfl⟩
      rw [← ht12]
      have I6 := HJ6.out.below hb6
      clear hb6 ht12 HJ6 hfz  
      obtain ⟨y12, hy12⟩ := I6.live.cell _ _ _ HU12.out
      have hfz := fun j => (I6.live.fr b j hb).trans (HF.out j)
      have HI := hid I6
      clear I6
      have J7 := (Inv.set HI.out hM 12 (by omega) (by omega) (by omega) (.string t12))
      have HJ7 := hid J7
      clear J7 HI
      go_wp2_with fail
      refine (c_markText _ _ (by omega) (by omega)).mono ?_
      rintro e w7 ⟨rfl, hb7⟩
      obtain ⟨t13, ht13⟩ : ∃ z, z = mkB (Q + 1 + 1 + 1 + 1 + 1 + 1 + 1 + 1 + 1 + 1 + 1 + x.fAidLightGroup.length + 1) := ⟨_, rfl⟩
      rw [← ht13]
      have I7 := HJ7.out.below hb7
      clear hb7 ht13 HJ7 hfz hy12 
      obtain ⟨y13, hy13⟩ := I7.live.cell _ _ _ HU13.out
      obtain ⟨y14, hy14⟩ := I7.live.cell _ _ _ HU14.out
      have hfz := fun j => (I7.live.fr b j hb).trans (HF.out j)
      have HI := hid I7
      clear I7
      have J8 := (Inv.set (Inv.set HI.out hM 13 (by omega) (by omega) (by omega) (.string t13)) hM 14 (by omega) (by omega) (by omega) (.int .i64 (Q + 1 + 1 + 1 + 1 + 1 + 1 + 1 + 1 + 1 + 1 + 1 + x.fAidLightGroup.length + 1 + 1)))
      have HJ8 := hid J8
      have hl8 := J8.sec
      clear J8 HI
      go_wp2_with fail
      refine (c_markSectorE (secV x) x.fAidSectors.length _ _ (HES.out.live HJ8.out.live) (by omega) (by omega) (by omega)).mono ?_
      rintro e w8 ⟨rfl, hk8, hv8⟩
      have I8 := HJ8.out.mark HMS.out hk8 hv8
      clear hk8 hv8 HJ8 hl8 hfz hy13 hy14 
      obtain ⟨y16, hy16⟩ := I8.live.cell _ _ _ HU16.out
      have hfz := fun j => (I8.live.fr b j hb).trans (HF.out j)
      have HI := hid I8
      clear I8
      have J9 := (Inv.set HI.out hM 16 (by omega) (by omega) (by omega) (.int .i64 (Q + 1 + 1 + 1 + 1 + 1 + 1 + 1 + 1 + 1 + 1 + 1 + x.fAidLightGroup.length + 1 + 1 + 1 + 3 * x.fAidSectors.length)))
      have HJ9 := hid J9
      clear J9 HI
      go_wp2_with fail
      go_roundw
      case rel => exact ⟨k + 1, by omega, by go_num, by rw [HW.out]; unfold wgt; go_num, HJ9.out.kept, HJ9.out.live, hid (fun i hi hk => HJ9.out.rest i hi (by omega))⟩
      case measure => simp [intOf]; omega
    · have hke : k = xs.length := by omega
      have HR := hid (show m + msum (xs.take k) = m + msum xs by rw [hke, List.take_length])
      clear hx had hke
      go_wp2_with fail
      go_ret
      exact ⟨ret_int HR.out, hK⟩
end Go.Proofs.Ytjibilibdjfdcaa
