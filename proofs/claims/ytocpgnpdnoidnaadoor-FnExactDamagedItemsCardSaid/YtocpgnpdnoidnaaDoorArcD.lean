/- DamagedItems, the program's side. -/
import Derived.Test.YtocpgnpdnoidnaaDoorArcC
namespace Go.Proofs.YtocpgnpdnoidnaaDoor
open Go.RowKit Go.Sort
set_option linter.unusedVariables false
set_option maxRecDepth 100000

theorem info_I64d : (Tryd.prog.info? 2).map (fun i => (i.zero, i.size, i.bytes)) = some (some (.int .i64 0), 1, 8) := by kernel_rfl
structure DamS (w0 : World) (bo bi : Nat) (k : Nat) (w : World) (x : List Int × Nat) : Prop where
  v : ∃ v, Bk w bo 42 [v] ∧ Acc w0 w0.heap.size 2 1 encI w v x.1 ∧ v.ownBlock ≠ some bo ∧ v.ownBlock ≠ some bi
  i : Bk w bi 2 [.int .i64 x.2]
  low : w0.heap.size ≤ bo ∧ w0.heap.size ≤ bi ∧ bo ≠ bi
  len : x.1.length ≤ k ∧ x.2 ≤ k
theorem DamS.stay {w0 : World} {bo bi k : Nat} {w w' : World} {x : List Int × Nat} (h : DamS w0 bo bi k w x) (hb : Below w.heap.size w w') : DamS w0 bo bi k w' x := by
  obtain ⟨⟨v, h1, h2, h3⟩, h4, h5, h6⟩ := h
  exact ⟨⟨v, h1.below hb, h2.below hb, h3⟩, h4.below hb, h5, h6⟩
theorem DamS.old {w0 : World} {bo bi k : Nat} {w : World} {x : List Int × Nat} (h : DamS w0 bo bi k w x) : Below w0.heap.size w0 w := by
  obtain ⟨⟨v, h1, h2, h3⟩, h4, h5, h6⟩ := h
  exact h2.keep
def TookD (w0 : World) (bo bi k : Nat) (v : Value) (w1 : World) (x' : List Int × Nat) (en : Ending) (w' : World) : Prop :=
  en = .returned (.int .i64 0) ∧ DamS w0 bo bi (k + 1) w' x' ∧ w1.heap.size ≤ w'.heap.size ∧ ∀ X, X < w1.heap.size → X ≠ bo → X ≠ bi → v.ownBlock ≠ some X → w'.heap[X]? = w1.heap[X]?
theorem tookD_same {w0 : World} {bo bi k : Nat} {v : Value} {w1 w2 : World} {xs : List Int} {n : Nat} (h1 : Bk w1 bo 42 [v]) (h2 : Acc w0 w0.heap.size 2 1 encI w1 v xs) (h3 : v.ownBlock ≠ some bo) (h4 : v.ownBlock ≠ some bi) (hi : Bk w1 bi 2 [.int .i64 n])
    (hlow : w0.heap.size ≤ bo ∧ w0.heap.size ≤ bi ∧ bo ≠ bi) (hl : xs.length ≤ k ∧ n ≤ k) (hb : Below (w1.setCell ⟨bi, 0, none⟩ (.int .i64 ((n : Int) + 1))).heap.size (w1.setCell ⟨bi, 0, none⟩ (.int .i64 ((n : Int) + 1))) w2) : TookD w0 bo bi k v w1 (xs, n + 1) (.returned (.int .i64 0)) w2 := by
  obtain ⟨l1, l2, l3⟩ := hlow
  have hs := hb.size
  have hD : DamS w0 bo bi (k + 1) (w1.setCell ⟨bi, 0, none⟩ (.int .i64 ((n : Int) + 1))) (xs, n + 1) := ⟨⟨v, h1.other (fun e => l3 e.symm) _, h2.setOther _ _ (fun b hb' e => h4 (by rw [hb', e])) l2, h3, h4⟩, hi.set 0 _, ⟨l1, l2, l3⟩, by simp only; omega⟩
  rw [size_put] at hs
  refine ⟨rfl, hD.stay hb, hs, fun X hX hne hni hnv => ?_⟩
  rw [hb.block X (by rw [size_put]; exact hX), Below.heap_setCell w1 ⟨bi, 0, none⟩ _ X hni]
theorem tookD_push {w0 : World} {bo bi k : Nat} {v v' : Value} {w1 wA w5 : World} {xs : List Int} {n : Nat} {T' : TypeId} {cs : Array Value} (h1 : Bk w1 bo 42 [v]) (h3 : v.ownBlock ≠ some bo) (h4 : v.ownBlock ≠ some bi) (hi : Bk w1 bi 2 [.int .i64 n])
    (hlow : w0.heap.size ≤ bo ∧ w0.heap.size ≤ bi ∧ bo ≠ bi) (hl : xs.length ≤ k + 1 ∧ n ≤ k) (hb : Below w1.heap.size w1 wA) (hA : Acc w0 w0.heap.size 2 1 encI w5 v' xs) (hg : (wA.alloc (.cells cs T')).grownBy w5 v.ownBlock) (hx : v'.ownBlock = v.ownBlock ∨ v'.ownBlock = some (wA.heap.size + 1)) :
    TookD w0 bo bi k v w1 (xs, n + 1) (.returned (.int .i64 0)) ((w5.setCell ⟨bo, 0, none⟩ v').setCell ⟨bi, 0, none⟩ (.int .i64 ((n : Int) + 1))) := by
  obtain ⟨l1, l2, l3⟩ := hlow
  have t := tookP_push (T := 42) h1 h3 l1 hb hA hg hx (c := 0) rfl
  obtain ⟨-, ⟨v2, q1, q2, q3⟩, q4, q5⟩ := t
  have hs := hb.size
  have hgs := hg.size
  rw [World.size_alloc] at hgs
  have hib := hi.lt
  have hown : v'.ownBlock ≠ some bo ∧ v'.ownBlock ≠ some bi := by
    refine ⟨fun e => ?_, fun e => ?_⟩
    · rcases hx with h | h
      · exact h3 (h ▸ e)
      · rw [h] at e; injection e with e; have := h1.lt; omega
    · rcases hx with h | h
      · exact h4 (h ▸ e)
      · rw [h] at e; injection e with e; omega
  have hiw : Bk (w5.setCell ⟨bo, 0, none⟩ v') bi 2 [.int .i64 n] := (tk_bk (hi.below hb) h4 hg).other l3 _
  have h15 : Bk w5 bo 42 [v] := tk_bk (h1.below hb) h3 hg
  refine ⟨rfl, ⟨⟨v', (h15.set 0 v').other (fun e => l3 e.symm) _, (hA.setOther ⟨bo, 0, none⟩ v' (fun b hb' e => hown.1 (by rw [hb', e])) l1).setOther _ _ (fun b hb' e => hown.2 (by rw [hb', e])) l2, hown.1, hown.2⟩, hiw.set 0 _, ⟨l1, l2, l3⟩, by simp only; omega⟩, by rw [size_put]; exact q4, fun X hX hne hni hnv => ?_⟩
  rw [Below.heap_setCell _ ⟨bi, 0, none⟩ _ X hni]
  exact q5 X hX hne hnv
set_option maxHeartbeats 4000000 in
theorem c_dam1 (w0 : World) (bo bi k : Nat) (v : Value) (xs : List Int) (n : Nat) (a b : ByteArray) (bad : Bool) (w : World) (h1 : Bk w bo 42 [v]) (h2 : Acc w0 w0.heap.size 2 1 encI w v xs) (h3 : v.ownBlock ≠ some bo) (h4 : v.ownBlock ≠ some bi) (hin : Bk w bi 2 [.int .i64 n])
    (hlow : w0.heap.size ≤ bo ∧ w0.heap.size ≤ bi ∧ bo ≠ bi) (hl : xs.length ≤ k ∧ n ≤ k) (hk : k ≤ 40) :
    Calls Tryd.prog 56 #[.agg #[.string a, .string b], .bool bad, .pointer (some ⟨bo, 0, none⟩), .pointer (some ⟨bi, 0, none⟩)] w (TookD w0 bo bi k v w (if bad then xs ++ [(n : Int)] else xs, n + 1)) := by
  obtain ⟨i0, hi, iz0, iz1, iz2⟩ := info_parts info_I64d
  have H1 := hid h1
  have H2 := hid h2
  have H3 := hid h3
  have H4 := hid h4
  have HI := hid hin
  have HL := hid hl
  have HW := hid hlow
  obtain ⟨ad, cap, rfl⟩ := (h2.slo (fun _ => rfl)).1.form
  have b0 := h1.cell 0 rfl
  have fb := h1.fr
  have hbo := h1.lt
  have i0c := hin.cell 0 rfl
  have fi := hin.fr
  have hbi := hin.lt
  have hnI : (n : Int) ≤ 40 := by omega
  have hx40 : xs.length ≤ 40 := by omega
  have hne1 : bo ≠ bi := hlow.2.2
  have hne2 : bi ≠ bo := fun e => hne1 e.symm
  clear h1 h2 h3 h4 hin hl hlow
  cases bad
  case false =>
    go_enter Tryd.func56, Tryd.ntmps56
    go_wp2
    go_ret
    exact tookD_same H1.out H2.out H3.out H4.out HI.out HW.out HL.out (by (repeat' (first | (with_reducible exact Below.refl _ _) | (with_reducible refine Below.alloc ?_ ?_ _) | (with_reducible refine Below.drew ?_) | (with_reducible refine below_drewN ?_ _) | (with_reducible refine Below.setCell ?_ ?_ _) | (with_reducible refine below_via ‹_› ?_ ?_) | (with_reducible refine below_grow ?_ ?_ _ _) | omega | (simp; done) | (simp; omega))))
  case true =>
    go_enter Tryd.func56, Tryd.ntmps56
    go_wp2_with (at_builtin; refine wpList_pushG rfl (.tmp 8) (.tmp 10) 42 rfl i0 (.int .i64 0) 8 Tryd.underlying42 hi iz0 iz1 iz2 rfl (by decide) (fun _ => rfl) (n : Int) rfl H2.out (by (repeat' (first | (with_reducible exact Below.refl _ _) | (with_reducible refine Below.alloc ?_ ?_ _) | (with_reducible refine Below.drew ?_) | (with_reducible refine below_drewN ?_ _) | (with_reducible refine Below.setCell ?_ ?_ _) | (with_reducible refine below_via ‹_› ?_ ?_) | (with_reducible refine below_grow ?_ ?_ _ _) | omega | (simp; done) | (simp; omega)))) 2 1 (by rw [World.size_alloc]; rfl) (one_encI _) (by unfold maxLen; omega) (by omega) ?_; intro v5 w5 hA5 hg5 hx5; obtain ⟨ad5, cp5, hv5⟩ := (hA5.slo (fun _ => rfl)).1.form; rw [List.length_append, List.length_singleton] at hv5; subst hv5; have hb5 := tk_bk (Bk.alloc H1.out _) H3.out hg5; have hi5 := tk_bk (Bk.alloc HI.out _) H4.out hg5; have c5 := hb5.cell 0 rfl; have f5 := hb5.fr; have hz5 := hb5.lt; have d5 := (Bk.other hi5 hne1 (i := 0) (.slice ad5 (xs.length + 1) cp5)).cell 0 rfl; have e5 := hi5.fr; have hy5 := hi5.lt)
    go_ret
    exact tookD_push H1.out H3.out H4.out HI.out HW.out (by have := HL.out; simp; omega) (by (repeat' (first | (with_reducible exact Below.refl _ _) | (with_reducible refine Below.alloc ?_ ?_ _) | (with_reducible refine Below.drew ?_) | (with_reducible refine below_drewN ?_ _) | (with_reducible refine Below.setCell ?_ ?_ _) | (with_reducible refine below_via ‹_› ?_ ?_) | (with_reducible refine below_grow ?_ ?_ _ _) | omega | (simp; done) | (simp; omega)))) hA5 hg5 hx5
theorem takes_dam (w0 : World) (bo bi : Nat) : Takes w0 56 #[.pointer (some ⟨bo, 0, none⟩), .pointer (some ⟨bi, 0, none⟩)] damStp (DamS w0 bo bi) := by
  refine ⟨fun k w w' a h hb => h.stay hb, fun k w a h => h.old, ?_, enter_of' (fn := Tryd.f56) Tryd.func56 (by kernel_rfl) (by kernel_rfl)⟩
  intro k w w1 x d bad hR hb hk hd
  obtain ⟨⟨v, h1, h2, h3, h4⟩, h5, h6, h7⟩ := hR
  refine (c_dam1 w0 bo bi k v x.1 x.2 d.fKey d.fText bad w1 (h1.below hb) (h2.below hb) h3 h4 (h5.below hb) h6 h7 hk).mono ?_
  rintro e w' ⟨rfl, hD, hsz, hX⟩
  exact ⟨rfl, hD, fun X hX1 hX2 => ⟨hsz, hX X hX2 (by have := h1.lt; omega) (by have := h5.lt; omega) (fun e => by have := acc_own (enc := encI) (n := 1) (fun _ => rfl) h2 X e; omega)⟩⟩
def IntsP (xs : List Int) (c : Int) (w : World) (e : Ending) (w' : World) : Prop := ∃ v, e = .returned (.tuple #[v, .int .i64 c]) ∧ Below w.heap.size w w' ∧ SlO w' w.heap.size 1 encI v xs
theorem intsP_none {xs : List Int} {c : Int} {w w' : World} (h : Below w.heap.size w w') (ho : xs = []) : IntsP xs c w (.returned (.tuple #[.slice none 0 0, .int .i64 c])) w' := by
  subst ho; exact ⟨_, rfl, h, .inl ⟨none, 0, rfl, rfl, Nat.zero_le _⟩, fun g hg => by simp [Value.ownBlock] at hg⟩
theorem intsP_some {xs : List Int} {c : Int} {w w' : World} {v : Value} (h : Below w.heap.size w w') (hS : SlO w' w.heap.size 1 encI v xs) (hc : c = 0) : IntsP xs c w (.returned (.tuple #[v, .int .i64 0])) w' := by
  subst hc; exact ⟨v, rfl, h, hS⟩
theorem damS_new (w : World) {W : World} (hW : W = ((w.alloc (.cells #[] 2)).alloc (.cells #[.slice (some ⟨w.heap.size, 0, none⟩) 0 0] 42)).alloc (.cells #[.int .i64 0] 2)) : DamS w (w.heap.size + 1) (w.heap.size + 1 + 1) 0 W ([], 0) := by
  obtain ⟨W1, hW1⟩ : ∃ z, z = (w.alloc (.cells #[] 2)).alloc (.cells #[.slice (some ⟨w.heap.size, 0, none⟩) 0 0] 42) := ⟨_, rfl⟩
  have hz1 : W1.heap.size = w.heap.size + 1 + 1 := by rw [hW1]; simp
  obtain ⟨⟨v, h1, h2, h3⟩, h4, h5⟩ := listS_new (α := Int) (n := 1) (enc := encI) w hW1
  rw [← hW1] at hW
  have e1 : v = .slice (some ⟨w.heap.size, 0, none⟩) 0 0 := by
    have hk : Bk W1 (w.heap.size + 1) 42 [.slice (some ⟨w.heap.size, 0, none⟩) 0 0] := by rw [hW1]; exact Bk.new1 (by simp)
    have := (h1.cell 0 rfl).symm.trans (hk.cell 0 rfl)
    injection this
  subst hW
  refine ⟨⟨v, h1.alloc _, h2.below ((Below.refl _ _).alloc (Nat.le_refl _) _), h3, by rw [e1]; simp [Value.ownBlock]; omega⟩, Bk.new1 (by omega), ⟨by omega, by omega, by omega⟩, by simp⟩
set_option maxHeartbeats 2000000 in
theorem c_impl_DamagedItems (s : ByteArray) (w : World) (hs : (s.size : Int) ≤ 1048576) (hrd : Rd w) :
    Calls Tryd.prog 22 #[.string s] w (IntsP (damR s.data.toList) (damC s.data.toList) w) := by
  obtain ⟨W, hW⟩ : ∃ W, W = ((w.alloc (.cells #[] 2)).alloc (.cells #[.slice (some ⟨w.heap.size, 0, none⟩) 0 0] 42)).alloc (.cells #[.int .i64 0] 2) := ⟨_, rfl⟩
  have cr := c_readFrames w _ _ _ _ (takes_dam w (w.heap.size + 1) (w.heap.size + 1 + 1)) s ([], 0) W hs (damS_new w hW) hrd
  have HW := hid hW
  obtain ⟨r, hr⟩ : ∃ r, r = arcL damStp ([], 0) s.data.toList := ⟨_, rfl⟩
  have HC := hid (show damC s.data.toList = r.1 by rw [hr]; rfl)
  have HV := hid (show damR s.data.toList = if r.1 = 0 then r.2.1 else [] by rw [hr]; rfl)
  rw [← hr] at cr
  obtain ⟨c, hc⟩ : ∃ c, c = r.1 := ⟨_, rfl⟩
  unfold ArcP at cr
  rw [← hc] at cr HC HV
  clear hW hr hc
  go_enter Tryd.func22, Tryd.ntmps22
  go_wp2_with fail
  rw [← HW.out]
  refine cr.mono ?_
  rintro e w1 ⟨rfl, k, hR⟩
  have hB := hR.old
  obtain ⟨⟨v, h1, h2, h3⟩, h4, h5, h6⟩ := hR
  have b0 := h1.cell 0 rfl
  have HS := hid (h2.slo (fun _ => rfl))
  obtain ⟨ad, cap, rfl⟩ := HS.out.1.form
  clear h1 h2 h3 h4 h5 h6 cr
  cases hc0 : (c != 0)
  · have e0 : c = 0 := by simpa using hc0
    have HV2 := hid (show damR s.data.toList = r.2.1 by rw [HV.out, if_pos e0])
    have HE := hid e0
    clear e0
    go_wp2_with fail
    go_ret2
    rw [HV2.out, HC.out]
    exact intsP_some hB HS.out HE.out
  · have e0 : c ≠ 0 := by simpa using hc0
    have HV2 := hid (show damR s.data.toList = [] by rw [HV.out, if_neg e0])
    clear e0
    go_wp2_with fail
    go_ret2
    rw [HC.out]
    exact intsP_none hB HV2.out
end Go.Proofs.YtocpgnpdnoidnaaDoor
