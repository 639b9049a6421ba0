/- The archive's bytes read, the reference's side: l24Scan, DamagedItems, SalvageItems. Printed by wip/mkarct.py. -/
import Derived.Test.YtocpgnpdnoidnaaDoorArcS
namespace Go.Proofs.YtocpgnpdnoidnaaDoor
open Go.RowKit Go.Sort
set_option linter.unusedVariables false
set_option maxRecDepth 100000

def encBl (b : Bool) : List Value := [.bool b]
theorem one_encBl (y : Bool) : ∀ u ∈ encBl y, u.oneCell' = true := by intro u hu; simp only [encBl, List.mem_singleton] at hu; subst hu; rfl
theorem info_Bl : (Tryd.prog.info? 4).map (fun i => (i.zero, i.size, i.bytes)) = some (some (.bool false), 1, 1) := by kernel_rfl
/-- two lists of the call's own lie apart -/
def ApartO (u v : Value) : Prop := u.ownBlock ≠ v.ownBlock ∨ v.ownBlock = none
theorem own_sym {u v : Value} (h : ApartO u v) : v.ownBlock ≠ u.ownBlock ∨ u.ownBlock = none := by
  rcases h with h | h
  · exact .inl (fun e => h e.symm)
  · cases hu : u.ownBlock with
    | none => exact .inr rfl
    | some b => rw [h]; exact .inl (fun e => by cases e)
theorem own_five {u v v5 : Value} {n : Nat} (hx : v5.ownBlock = u.ownBlock ∨ v5.ownBlock = some (n + 1)) (h : ApartO u v) {w : World} (hn : w.heap.size ≤ n + 1) (hv : ∀ b, v.ownBlock = some b → b < w.heap.size) : ApartO v5 v := by
  rcases hx with hx | hx
  · unfold ApartO; rw [hx]; exact h
  · cases hb : v.ownBlock with
    | none => exact .inr hb
    | some b => exact .inl (by rw [hx, hb]; intro e; injection e with e; have := hv b hb; omega)
def ScanP (xs : List ItemD) (bs : List Bool) (c : Int) (w : World) (e : Ending) (w' : World) : Prop := ∃ u v, e = .returned (.tuple #[u, v, .int .i64 c]) ∧ Below w.heap.size w w' ∧ SlO w' w.heap.size 2 encItem u xs ∧ SlO w' w.heap.size 1 encBl v bs
theorem scanP_none {xs : List ItemD} {bs : List Bool} {c : Int} {w w' : World} (h : Below w.heap.size w w') (ho : xs = []) (ho2 : bs = []) : ScanP xs bs c w (.returned (.tuple #[.slice none 0 0, .slice none 0 0, .int .i64 c])) w' := by
  subst ho; subst ho2
  exact ⟨_, _, rfl, h, ⟨.inl ⟨none, 0, rfl, rfl, Nat.zero_le _⟩, fun g hg => by simp [Value.ownBlock] at hg⟩, .inl ⟨none, 0, rfl, rfl, Nat.zero_le _⟩, fun g hg => by simp [Value.ownBlock] at hg⟩
theorem scanP_some {xs : List ItemD} {bs : List Bool} {c : Int} {w w' : World} {u v : Value} (h : Below w.heap.size w w') (hS : SlO w' w.heap.size 2 encItem u xs) (hT : SlO w' w.heap.size 1 encBl v bs) (hc : c = 0) : ScanP xs bs c w (.returned (.tuple #[u, v, .int .i64 0])) w' := by
  subst hc; exact ⟨u, v, rfl, h, hS, hT⟩
set_option maxHeartbeats 8000000 in
theorem c_l24Scan (s : ByteArray) (w : World) (hs : (s.size : Int) ≤ 1048576) :
    Calls Tryd.prog 55 #[.string s] w (ScanP (scanI s.data.toList) (scanB s.data.toList) (scanC s.data.toList) w) := by
  obtain ⟨i0, hi, iz0, iz1, iz2⟩ := info_parts info_Itm
  obtain ⟨j0, hj, jz0, jz1, jz2⟩ := info_parts info_Bl
  have ch := fun w' => c_l24Head s w' hs
  have HCV : Hid (∀ c a, arcL scanStp ([], []) s.data.toList = (c, a) → scanC s.data.toList = c ∧ (scanI s.data.toList = if c = 0 then a.1 else []) ∧ scanB s.data.toList = if c = 0 then a.2 else []) := fun c a h => by unfold scanI scanB scanC; rw [h]; exact ⟨rfl, rfl, rfl⟩
  rcases head_cases scanStp ([], []) s.data.toList with ⟨c, hc, hv, hl⟩ | ⟨n, p0, hn40, hp0, hv, hl⟩
  · have HV := hid hv
    obtain ⟨e1, e2, e3⟩ := HCV.out c _ hl
    rw [if_neg hc] at e2 e3
    have HR := hid (And.intro e1 (And.intro e2 e3))
    have hcb : (c != 0) = true := by simpa using hc
    have HC0 := hid hc
    clear hv hl e1 e2 e3 hc
    go_enter Tryd.func55, Tryd.ntmps55
    go_wp2_with fail
    refine (ch _).mono ?_
    rintro e w1 ⟨hb1, rfl⟩
    rw [HV.out]
    clear ch
    go_wp2_with fail
    go_ret3
    rw [HR.out.1]
    exact scanP_none (by (repeat' (first | (with_reducible exact Below.refl _ _) | (with_reducible refine Below.alloc ?_ ?_ _) | (with_reducible refine Below.drew ?_) | (with_reducible refine below_drewN ?_ _) | (with_reducible refine Below.setCell ?_ ?_ _) | (with_reducible refine below_via ‹_› ?_ ?_) | (with_reducible refine below_grow ?_ ?_ _ _) | omega | (simp; done) | (simp; omega)))) HR.out.2.1 HR.out.2.2
  · have HV := hid hv
    have HL := hid hl
    rw [data_len] at hp0
    clear hv hl
    go_enter Tryd.func55, Tryd.ntmps55
    go_wp2_with fail
    refine (ch _).mono ?_
    rintro e w1 ⟨hb1, rfl⟩
    rw [HV.out]
    have hzb1 := hb1.size
    have A1 := (acc_new (α := ItemD) (e := 55) (n := 2) encItem hb1).below ((Below.refl _ _).alloc (Nat.le_refl _) (.cells #[] 4))
    have B1 := acc_new (α := Bool) (e := 4) (n := 1) encBl (show Below w.heap.size w (w1.alloc (.cells #[] 55)) by (repeat' (first | (with_reducible exact Below.refl _ _) | (with_reducible refine Below.alloc ?_ ?_ _) | (with_reducible refine Below.drew ?_) | (with_reducible refine below_drewN ?_ _) | (with_reducible refine Below.setCell ?_ ?_ _) | (with_reducible refine below_via ‹_› ?_ ?_) | (with_reducible refine below_grow ?_ ?_ _ _) | omega | (simp; done) | (simp; omega))))
    rw [World.size_alloc] at B1
    have U1 : ApartO (.slice (some ⟨w1.heap.size, 0, none⟩) 0 0) (.slice (some ⟨w1.heap.size + 1, 0, none⟩) 0 0) := .inl (by simp [Value.ownBlock])
    clear ch hb1
    go_wp2_with fail
    go_loopw [6, 8, 9, 10] (fun q u v i wr => ∃ (k p : Nat) (xs : List ItemD) (bs : List Bool), k ≤ n ∧ i = .int .i64 k ∧ q = .int .i64 p ∧ p ≤ s.size ∧ Hid (arcF scanStp (n - k) (xs, bs) (s.data.toList.drop p) = arcL scanStp ([], []) s.data.toList) ∧ xs.length ≤ k ∧ bs.length ≤ k ∧ Acc w w.heap.size 55 2 encItem wr u xs ∧ Acc w w.heap.size 4 1 encBl wr v bs ∧ ApartO u v) (fun _ _ _ i _ => n - (intOf i).toNat)
    case atStart => exact ⟨0, p0, [], [], Nat.zero_le _, rfl, rfl, hp0, hid (by rw [HL.out]; rfl), Nat.le_refl _, Nat.le_refl _, A1, B1, U1⟩
    case round =>
      clear A1 B1 U1 HL
      obtain ⟨k, p, xs, bs, hk, rfl, rfl, hp, hO, hxl, hbl, hA, hB, hU⟩ := hrel
      have hBr : Below w.heap.size w wr := hA.keep
      have hzr := hBr.size
      by_cases hlt : k < n
      · have hlI : (k : Int) < n := by omega
        have cf := fun w' => c_l24Frame s p w' hs hp
        have hnk : n - k = (n - (k + 1)) + 1 := by omega
        rcases frL_cases (s.data.toList.drop p) with ⟨h1, h2⟩ | ⟨f, hf, hft, hfk, hf0, hfu⟩
        · obtain ⟨c, hc⟩ : ∃ c, frL (s.data.toList.drop p) = (none, c) := ⟨(frL (s.data.toList.drop p)).2, by rw [← h1]⟩
          have hcne : c ≠ 0 := by rw [hc] at h2; exact h2
          have HR := hid (show arcL scanStp ([], []) s.data.toList = (c, (xs, bs)) by rw [← hO.out, hnk, arcF_bad hc])
          have hcb : (c != 0) = true := by simpa using hcne
          have HC := hid hc
          have HCN := hid hcne
          clear hc h1 h2 hnk hcne
          go_wp2_with fail
          refine (cf _).mono ?_
          intro e w3 h3
          obtain ⟨hb3, rfl⟩ := frm_none h3 HC.out
          have hz3 := hb3.size
          clear h3 cf
          go_wp2_with fail
          go_ret3
          rw [(HCV.out c (xs, bs) HR.out).1]
          exact scanP_none (by (repeat' (first | (with_reducible exact Below.refl _ _) | (with_reducible refine Below.alloc ?_ ?_ _) | (with_reducible refine Below.drew ?_) | (with_reducible refine below_drewN ?_ _) | (with_reducible refine Below.setCell ?_ ?_ _) | (with_reducible refine below_via ‹_› ?_ ?_) | (with_reducible refine below_grow ?_ ?_ _ _) | omega | (simp; done) | (simp; omega)))) (by rw [(HCV.out c (xs, bs) HR.out).2.1, if_neg HCN.out]) (by rw [(HCV.out c (xs, bs) HR.out).2.2, if_neg HCN.out])
        · have HF := hid hf
          obtain ⟨d, hd⟩ : ∃ d, d = f.it := ⟨_, rfl⟩
          obtain ⟨bad, hbad⟩ : ∃ b, b = badB f := ⟨_, rfl⟩
          obtain ⟨p2, hp2⟩ : ∃ q, q = p + f.used := ⟨_, rfl⟩
          have hp2s : p2 ≤ s.size := by rw [lst_len] at hfu; omega
          have hdrop : (s.data.toList.drop p).drop f.used = s.data.toList.drop p2 := by rw [List.drop_drop, hp2]
          obtain ⟨st, hst⟩ : ∃ st, st = scanStp (xs, bs) d bad := ⟨_, rfl⟩
          have HGO := hid (show st.1 = 0 → arcF scanStp (n - (k + 1)) st.2 (s.data.toList.drop p2) = arcL scanStp ([], []) s.data.toList from fun h => by
            rw [hst, hd, hbad] at h ⊢
            rw [← hO.out, hnk, arcF_go hf h, hdrop])
          have HOUT := hid (show st.1 ≠ 0 → arcL scanStp ([], []) s.data.toList = st from fun h => by
            rw [hst, hd, hbad] at h ⊢
            rw [← hO.out, hnk, arcF_out hf h])
          have HST := hid hst
          have HP2 := hid hp2
          have HD := hid hd
          have HBAD := hid hbad
          obtain ⟨ky, hky⟩ : ∃ y, y = d.fKey := ⟨_, rfl⟩
          obtain ⟨tx, htx⟩ : ∃ y, y = d.fText := ⟨_, rfl⟩
          have HKT := hid (show d = ⟨ky, tx⟩ by rw [hky, htx])
          have HKY := hid hky
          have HTX := hid htx
          clear hf hnk hdrop hp2 hd hbad hft hfk hf0 hfu hst
          go_wp2_with fail
          refine (cf _).mono ?_
          intro e w3 h3
          obtain ⟨hb3, rfl⟩ := frm_some h3 HF.out
          rw [← HD.out, ← HBAD.out, ← HP2.out, ← hky, ← htx]
          have hz3 := hb3.size
          obtain ⟨X, hX⟩ : ∃ X, X = w3.heap.size := ⟨_, rfl⟩
          obtain ⟨W4, hW4⟩ : ∃ z, z = w3.alloc (.cells #[.string ky, .string tx] 55) := ⟨_, rfl⟩
          have hbx : Bk W4 X 55 [.string ky, .string tx] := by rw [hW4, hX]; exact (by (repeat' (first | (with_reducible exact Bk.new _ _ _) | (with_reducible refine Bk.new1 ?_; first | rfl | (simp; done) | omega) | (with_reducible assumption) | (with_reducible refine Bk.alloc ?_ _) | (with_reducible refine Bk.drew ?_) | (with_reducible refine Bk.drewN ?_ _) | (with_reducible refine Bk.other ?_ ?_ _) | (with_reducible apply Bk.drewBy; with_reducible assumption) | (with_reducible apply Bk.viaB; with_reducible assumption) | omega | (simp; done))))
          have hB4 : Below wr.heap.size wr W4 := by rw [hW4]; (repeat' (first | (with_reducible exact Below.refl _ _) | (with_reducible refine Below.alloc ?_ ?_ _) | (with_reducible refine Below.drew ?_) | (with_reducible refine below_drewN ?_ _) | (with_reducible refine Below.setCell ?_ ?_ _) | (with_reducible refine below_via ‹_› ?_ ?_) | (with_reducible refine below_grow ?_ ?_ _ _) | omega | (simp; done) | (simp; omega)))
          have hzX : X < W4.heap.size := by rw [hW4, hX]; simp
          have hxr : wr.heap.size ≤ X := by omega
          have x0 := hbx.cell 0 rfl
          have x1 := hbx.cell 1 rfl
          have HW4 := hid hW4
          have HX := hid hX
          clear h3 cf hky htx hb3 hW4 hX
          have HA4 := hid (hA.below hB4)
          have HB4 := hid (hB.below hB4)
          obtain ⟨ad, cap, rfl⟩ := (HA4.out.slo (fun _ => rfl)).1.form
          obtain ⟨ad2, cap2, rfl⟩ := (HB4.out.slo (fun _ => rfl)).1.form
          have HUW := hid hU
          have hwf : W4.heap.size ≤ W4.heap.size + 1 := Nat.le_succ _
          have HWF := hid hwf
          have HN := hid (show arcF scanStp (n - (k + 1)) (xs ++ [d], bs ++ [!bad]) (s.data.toList.drop p2) = arcL scanStp ([], []) s.data.toList by
            have hs0 : st = (0, (xs ++ [d], bs ++ [!bad])) := HST.out
            have h := HGO.out; rw [hs0] at h; exact h rfl)
          clear hA hB hU hwf
          obtain rfl := HW4.out
          obtain rfl := HX.out
          clear HW4 HX
          go_wp2_with (first | (at_builtin; refine wpList_pushG rfl (.tmp 42) (.tmp 44) 37 rfl i0 _ 32 Tryd.underlying37 hi iz0 iz1 iz2 rfl (by decide) (fun _ => rfl) (⟨ky, tx⟩ : ItemD) rfl HA4.out (by (repeat' (first | (with_reducible exact Below.refl _ _) | (with_reducible refine Below.alloc ?_ ?_ _) | (with_reducible refine Below.drew ?_) | (with_reducible refine below_drewN ?_ _) | (with_reducible refine Below.setCell ?_ ?_ _) | (with_reducible refine below_via ‹_› ?_ ?_) | (with_reducible refine below_grow ?_ ?_ _ _) | omega | (simp; done) | (simp; omega)))) 55 1 (by rw [World.size_alloc]; rfl) (one_encIt _) (by unfold maxLen; omega) (by omega) ?_; intro v5 w5 hA5 hg5 hx5; rw [← HKT.out] at hA5; have hu5 := own_five hx5 HUW.out HWF.out (acc_own (enc := encBl) (n := 1) (fun _ => rfl) HB4.out); have hB5 := Acc.grown (HB4.out.below ((Below.refl _ _).alloc (Nat.le_refl _) _)) hg5 HUW.out (fun b hb => acc_high HA4.out b hb); have hzz5 := hg5.size) | (at_builtin; refine wpList_pushG (α := Bool) rfl (.tmp 46) (.tmp 48) 81 rfl j0 (.bool false) 1 Tryd.underlying81 hj jz0 jz1 jz2 rfl (by decide) (fun _ => rfl) (!bad) rfl hB5 (by (repeat' (first | (with_reducible exact Below.refl _ _) | (with_reducible refine Below.alloc ?_ ?_ _) | (with_reducible refine Below.drew ?_) | (with_reducible refine below_drewN ?_ _) | (with_reducible refine Below.setCell ?_ ?_ _) | (with_reducible refine below_via ‹_› ?_ ?_) | (with_reducible refine below_grow ?_ ?_ _ _) | omega | (simp; done) | (simp; omega)))) 4 1 rfl (one_encBl _) (by unfold maxLen; omega) (by omega) ?_; intro v6 w6 hB6 hg6 hx6; have hA6 := Acc.grown (hA5.below ((Below.refl _ _).alloc (Nat.le_refl _) _)) hg6 (own_sym hu5) (fun b hb => acc_high hB5 b hb); have hu6 := own_sym (own_five (w := w5) hx6 (own_sym hu5) (Nat.le_succ _) (acc_own lenItem hA5)); have hU6 : ApartO v5 v6 := hu6))
          go_roundw
          case rel => exact ⟨k + 1, p2, xs ++ [d], bs ++ [!bad], by omega, by go_num, rfl, hp2s, HN, by simp; omega, by simp; omega, hA6, hB6, hU6⟩
          case measure => simp [intOf]; omega
      · have e : k = n := by omega
        have hlI : ¬ (k : Int) < n := by omega
        have HX := hid (show arcL scanStp ([], []) s.data.toList = if s.data.toList.drop p = [] then (0, (xs, bs)) else (9, (xs, bs)) by rw [← hO.out, e, Nat.sub_self]; rfl)
        have HS := hid (hA.slo (fun _ => rfl))
        have HT := hid (hB.slo (fun _ => rfl))
        clear e hA hB hU
        by_cases hps : p = s.size
        · have hpz : ((p : Int) != (s.size : Int)) = false := by simp [hps]
          have HR := hid (show scanC s.data.toList = 0 ∧ scanI s.data.toList = xs ∧ scanB s.data.toList = bs from by
            have h := HCV.out 0 (xs, bs) (by rw [HX.out, if_pos (by rw [List.drop_eq_nil_iff, data_len]; omega)])
            exact ⟨h.1, h.2.1.trans (if_pos rfl), h.2.2.trans (if_pos rfl)⟩)
          clear hps
          go_wp2_with fail
          go_ret3
          rw [HR.out.1, HR.out.2.1, HR.out.2.2]
          exact scanP_some (by (repeat' (first | (with_reducible exact Below.refl _ _) | (with_reducible refine Below.alloc ?_ ?_ _) | (with_reducible refine Below.drew ?_) | (with_reducible refine below_drewN ?_ _) | (with_reducible refine Below.setCell ?_ ?_ _) | (with_reducible refine below_via ‹_› ?_ ?_) | (with_reducible refine below_grow ?_ ?_ _ _) | omega | (simp; done) | (simp; omega)))) HS.out HT.out rfl
        · have hpz : ((p : Int) != (s.size : Int)) = true := by simp; omega
          have HR := hid (HCV.out 9 (xs, bs) (by rw [HX.out, if_neg (by rw [List.drop_eq_nil_iff, data_len]; omega)]))
          go_wp2_with fail
          go_ret3
          rw [HR.out.1]
          exact scanP_none (by (repeat' (first | (with_reducible exact Below.refl _ _) | (with_reducible refine Below.alloc ?_ ?_ _) | (with_reducible refine Below.drew ?_) | (with_reducible refine below_drewN ?_ _) | (with_reducible refine Below.setCell ?_ ?_ _) | (with_reducible refine below_via ‹_› ?_ ?_) | (with_reducible refine below_grow ?_ ?_ _ _) | omega | (simp; done) | (simp; omega)))) HR.out.2.1 HR.out.2.2
theorem cell_of {α : Type} {w : World} {lo n : Nat} {enc : α → List Value} {ad : Option Addr} {m cap : Nat} {xs : List α} (h : SlA w lo n enc (.slice ad m cap) xs) (hm : m = xs.length) {k : Nat} (hk : k < xs.length) :
    ∃ b off, ad = some ⟨b, off, none⟩ ∧ lo ≤ b ∧ b < w.heap.size ∧ xs.length ≤ cap ∧ cap ≤ 9223372036854775807 ∧ ∀ i (hi : i < xs.length) j, j < n → w.cell? ⟨b, off + i * n + j, none⟩ = some ((enc xs[i]).getD j undef) := by
  obtain ⟨ad', cap', b, off, e, h1, h2, h3⟩ := h.uni
  injection e with e1 e2 e3
  obtain ⟨k1, k2, k3, k4, k5⟩ := h2 (by omega)
  exact ⟨b, off, e1.trans k1, k3, k2, by omega, by omega, h3⟩
set_option maxHeartbeats 4000000 in
theorem c_spec_DamagedItems (s : ByteArray) (w : World) (hs : (s.size : Int) ≤ 1048576) :
    Calls Tryd.prog 21 #[.string s] w (IntsP (damR s.data.toList) (damC s.data.toList) w) := by
  obtain ⟨i0, hi, iz0, iz1, iz2⟩ := info_parts info_I64d
  have cs := fun w' => c_l24Scan s w' hs
  obtain ⟨hc, hr⟩ := dam_scan s.data.toList
  have hbl := scanB_len s.data.toList
  obtain ⟨c, hcc⟩ : ∃ c, c = scanC s.data.toList := ⟨_, rfl⟩
  obtain ⟨bs, hbs⟩ : ∃ bs, bs = scanB s.data.toList := ⟨_, rfl⟩
  obtain ⟨is, his⟩ : ∃ is, is = scanI s.data.toList := ⟨_, rfl⟩
  rw [← hcc, ← hbs, ← his] at cs
  rw [← hcc] at hc hr
  rw [← hbs] at hr hbl
  have HC := hid hc
  have HR := hid hr
  clear hc hr hcc hbs his
  cases hc0 : (c != 0)
  · have e0 : c = 0 := by simpa using hc0
    have HR2 := hid (show damR s.data.toList = damK bs bs.length by rw [HR.out, if_pos e0])
    have HC2 := hid (HC.out.trans e0)
    clear e0
    go_enter Tryd.func21, Tryd.ntmps21
    go_wp2_with fail
    refine (cs _).mono ?_
    rintro e w1 ⟨ui, vb, rfl, hb1, hSi, hSb⟩
    have hz1 := hb1.size
    obtain ⟨adi, cpi, rfl⟩ := hSi.1.form
    obtain ⟨ad, cap, rfl⟩ := hSb.1.form
    have A1 := Acc.lit (α := Int) (W := w1.alloc (.cells #[] 2)) (w0 := w1) (e := 2) (Below.refl _ _) 1 encI
    obtain ⟨W, hW⟩ : ∃ W, W = w1.alloc (.cells #[] 2) := ⟨_, rfl⟩
    rw [← hW] at A1
    have hBW : Below w1.heap.size w1 W := by rw [hW]; exact (Below.refl _ _).alloc (Nat.le_refl _) _
    have hzW : w1.heap.size < W.heap.size := by rw [hW]; simp
    have HW := hid hW
    have HSb := hid hSb.1
    clear hW hSi hSb cs
    go_wp2_with fail
    (try rw [← HW.out])
    go_loopw [7, 8] (fun u i wr => ∃ k : Nat, k ≤ bs.length ∧ i = .int .i64 k ∧ Acc W w1.heap.size 2 1 encI wr u (damK bs k)) (fun _ i _ => bs.length - (intOf i).toNat)
    case atStart => exact ⟨0, Nat.zero_le _, rfl, A1⟩
    case round =>
      clear A1
      obtain ⟨k, hk, rfl, hA⟩ := hrel
      have hkl := damK_len bs k
      have hBr : Below w1.heap.size w1 wr := hBW.trans hA.keep
      have hzr := hBr.size
      by_cases hlt : k < bs.length
      · have hlI : (k : Int) < bs.length := by omega
        obtain ⟨b, off, rfl, hlo, hbb, hcc, hcm, hcl⟩ := cell_of HSb.out rfl hlt
        have hbr : b < wr.heap.size := by omega
        have c0 := below_cell hBr hbb (hcl k hlt 0 (by omega))
        simp only [encBl, List.getD_cons_zero, Nat.add_zero, Nat.mul_one] at c0
        have HD := hid (show damK bs (k + 1) = if bs[k] then damK bs k else damK bs k ++ [(k : Int)] by rw [damK_succ, List.getD_eq_getElem?_getD, List.getElem?_eq_getElem hlt]; rfl)
        clear hcl
        cases hq : bs[k]
        · rw [hq] at c0 HD
          have HD2 := hid (show damK bs (k + 1) = damK bs k ++ [(k : Int)] from HD.out)
          go_wp2_with (first | (at_builtin; refine wpList_push rfl (.tmp 30) (.tmp 32) 42 rfl i0 (.int .i64 0) 8 Tryd.underlying42 hi iz0 iz1 iz2 rfl (by decide) (fun _ => rfl) (k : Int) rfl hA (by (repeat' (first | (with_reducible exact Below.refl _ _) | (with_reducible refine Below.alloc ?_ ?_ _) | (with_reducible refine Below.drew ?_) | (with_reducible refine below_drewN ?_ _) | (with_reducible refine Below.setCell ?_ ?_ _) | (with_reducible refine below_via ‹_› ?_ ?_) | (with_reducible refine below_grow ?_ ?_ _ _) | omega | (simp; done) | (simp; omega)))) 2 1 rfl (one_encI _) (by unfold maxLen; omega) (by omega) ?_; intro v2 w2 hA2))
          go_roundw
          case rel => exact ⟨k + 1, by omega, by go_num, by rw [HD2.out]; exact hA2⟩
          case measure => simp [intOf]; omega
        · rw [hq] at c0 HD
          have HD2 := hid (show damK bs (k + 1) = damK bs k from HD.out)
          go_wp2_with fail
          go_roundw
          case rel => exact ⟨k + 1, by omega, by go_num, by rw [HD2.out]; exact hA⟩
          case measure => simp [intOf]; omega
      · have e : k = bs.length := by omega
        have hlI : ¬ (k : Int) < bs.length := by omega
        have hD := hA.done (fun _ => rfl) (show Below w.heap.size w W from hb1.trans (hBW.mono hz1)) hz1
        rw [e] at hD
        have HD := hid hD
        clear hD e
        go_wp2_with fail
        go_ret2
        rw [HR2.out, HC2.out]
        exact intsP_some HD.out.1 HD.out.2 rfl
  · have e0 : c ≠ 0 := by simpa using hc0
    have HR2 := hid (show damR s.data.toList = [] by rw [HR.out, if_neg e0])
    clear e0
    go_enter Tryd.func21, Tryd.ntmps21
    go_wp2_with fail
    refine (cs _).mono ?_
    rintro e w1 ⟨ui, vb, rfl, hb1, hSi, hSb⟩
    clear hSi hSb cs
    go_wp2_with fail
    go_ret2
    rw [HC.out]
    exact intsP_none (by (repeat' (first | (with_reducible exact Below.refl _ _) | (with_reducible refine Below.alloc ?_ ?_ _) | (with_reducible refine Below.drew ?_) | (with_reducible refine below_drewN ?_ _) | (with_reducible refine Below.setCell ?_ ?_ _) | (with_reducible refine below_via ‹_› ?_ ?_) | (with_reducible refine below_grow ?_ ?_ _ _) | omega | (simp; done) | (simp; omega)))) HR2.out
set_option maxHeartbeats 8000000 in
theorem c_spec_SalvageItems (s : ByteArray) (w : World) (hs : (s.size : Int) ≤ 1048576) :
    Calls Tryd.prog 26 #[.string s] w (ItemsP (salR s.data.toList) (salC s.data.toList) w) := by
  obtain ⟨i0, hi, iz0, iz1, iz2⟩ := info_parts info_Itm
  have cs := fun w' => c_l24Scan s w' hs
  obtain ⟨hc, hr⟩ := sal_scan s.data.toList
  have hbl := scanB_len s.data.toList
  have hsl := scan_len s.data.toList
  obtain ⟨c, hcc⟩ : ∃ c, c = scanC s.data.toList := ⟨_, rfl⟩
  obtain ⟨bs, hbs⟩ : ∃ bs, bs = scanB s.data.toList := ⟨_, rfl⟩
  obtain ⟨is, his⟩ : ∃ is, is = scanI s.data.toList := ⟨_, rfl⟩
  rw [← hcc, ← hbs, ← his] at cs
  rw [← hcc] at hc hr
  rw [← hbs] at hr hbl
  rw [← his] at hr
  rw [← his, ← hbs] at hsl
  have HC := hid hc
  have HR := hid hr
  have HSL := hid hsl
  have his40 : is.length ≤ 40 := by omega
  clear hc hr hcc hbs his hsl
  cases hc0 : (c != 0)
  · have e0 : c = 0 := by simpa using hc0
    have HR2 := hid (show salR s.data.toList = salK is bs is.length by rw [HR.out, if_pos e0, HSL.out])
    have HC2 := hid (HC.out.trans e0)
    clear e0
    go_enter Tryd.func26, Tryd.ntmps26
    go_wp2_with fail
    refine (cs _).mono ?_
    rintro e w1 ⟨ui, vb, rfl, hb1, hSi, hSb⟩
    have hz1 := hb1.size
    obtain ⟨adi, cpi, rfl⟩ := hSi.1.form
    obtain ⟨ad, cap, rfl⟩ := hSb.1.form
    have A1 := Acc.lit (α := ItemD) (W := w1.alloc (.cells #[] 55)) (w0 := w1) (e := 55) (Below.refl _ _) 2 encItem
    obtain ⟨W, hW⟩ : ∃ W, W = w1.alloc (.cells #[] 55) := ⟨_, rfl⟩
    rw [← hW] at A1
    have hBW : Below w1.heap.size w1 W := by rw [hW]; exact (Below.refl _ _).alloc (Nat.le_refl _) _
    have hzW : w1.heap.size < W.heap.size := by rw [hW]; simp
    have HW := hid hW
    have HSb := hid hSb.1
    have HSi := hid hSi.1
    clear hW hSi hSb cs
    go_wp2_with fail
    (try rw [← HW.out])
    go_loopw [7, 8] (fun u i wr => ∃ k : Nat, k ≤ is.length ∧ i = .int .i64 k ∧ Acc W w1.heap.size 55 2 encItem wr u (salK is bs k)) (fun _ i _ => is.length - (intOf i).toNat)
    case atStart => exact ⟨0, Nat.zero_le _, rfl, A1⟩
    case round =>
      clear A1
      obtain ⟨k, hk, rfl, hA⟩ := hrel
      have hkl := salK_len is bs k
      have hBr : Below w1.heap.size w1 wr := hBW.trans hA.keep
      have hzr := hBr.size
      by_cases hlt : k < is.length
      · have hlI : (k : Int) < is.length := by omega
        have hltb : k < bs.length := by have := HSL.out; omega
        have hltI : (k : Int) < bs.length := by omega
        obtain ⟨b, off, rfl, hlo, hbb, hcc, hcm, hcl⟩ := cell_of HSb.out rfl hltb
        obtain ⟨b2, of2, rfl, hlo2, hbb2, hcc2, hcm2, hcl2⟩ := cell_of HSi.out rfl hlt
        have hbr : b < wr.heap.size := by omega
        have hbr2 : b2 < wr.heap.size := by omega
        have c0 := below_cell hBr hbb (hcl k hltb 0 (by omega))
        have d0 := below_cell hBr hbb2 (hcl2 k hlt 0 (by omega))
        have d1 := below_cell hBr hbb2 (hcl2 k hlt 1 (by omega))
        simp only [encBl, encItem, List.getD_cons_zero, List.getD_cons_succ, Nat.add_zero, Nat.mul_one] at c0 d0 d1
        obtain ⟨ys, hys⟩ : ∃ ys, ys = salK is bs k := ⟨_, rfl⟩
        rw [← hys] at hA hkl
        obtain ⟨d, hd⟩ : ∃ d, d = is[k] := ⟨_, rfl⟩
        have HD := hid (show salK is bs (k + 1) = if bs[k] && lastLt ys d then ys ++ [d] else ys by
          rw [salK, List.getD_eq_getElem?_getD, List.getElem?_eq_getElem hltb, List.getD_eq_getElem?_getD, List.getElem?_eq_getElem hlt, ← hys, hd]; rfl)
        rw [← hd] at d0 d1
        have HYS := hid hys
        have hyl : ys.length ≤ 40 := by omega
        obtain ⟨ado, cpo, bo, ofo, rfl, hmo, hado, hxo⟩ := (hA.slo (fun _ => rfl)).1.uni
        have HA := hid hA
        clear hcl hcl2 hys hd hA
        cases hq : bs[k]
        · rw [hq] at c0 HD
          have HD2 := hid (show salK is bs (k + 1) = salK is bs k by rw [← HYS.out]; exact HD.out)
          clear hado hxo
          go_wp2_with fail
          go_quiet (fail)
          go_wp2_with fail
          go_roundw
          case rel => exact ⟨k + 1, by omega, by go_num, by rw [HD2.out, ← HYS.out]; exact HA.out.below (by (repeat' (first | (with_reducible exact Below.refl _ _) | (with_reducible refine Below.alloc ?_ ?_ _) | (with_reducible refine Below.drew ?_) | (with_reducible refine below_drewN ?_ _) | (with_reducible refine Below.setCell ?_ ?_ _) | (with_reducible refine below_via ‹_› ?_ ?_) | (with_reducible refine below_grow ?_ ?_ _ _) | omega | (simp; done) | (simp; omega))))⟩
          case measure => simp [intOf]; omega
        · rw [hq] at c0 HD
          by_cases h0 : ys.length = 0
          · have hy0 : ys = [] := List.eq_nil_of_length_eq_zero h0
            have HD2 := hid (show salK is bs (k + 1) = ys ++ [d] by rw [HD.out, hy0]; rfl)
            have hz3 : ((ys.length : Int) == 0) = true := by rw [beq_iff_eq]; omega
            clear hado hxo hy0 h0
            go_wp2_with fail
            go_quiet (fail)
            go_wp2_with (at_builtin; refine wpList_push rfl (.tmp 49) (.tmp 54) 37 rfl i0 _ 32 Tryd.underlying37 hi iz0 iz1 iz2 rfl (by decide) (fun _ => rfl) d rfl HA.out (by (repeat' (first | (with_reducible exact Below.refl _ _) | (with_reducible refine Below.alloc ?_ ?_ _) | (with_reducible refine Below.drew ?_) | (with_reducible refine below_drewN ?_ _) | (with_reducible refine Below.setCell ?_ ?_ _) | (with_reducible refine below_via ‹_› ?_ ?_) | (with_reducible refine below_grow ?_ ?_ _ _) | omega | (simp; done) | (simp; omega)))) 55 1 (by first | rfl | (rw [size_drewN]; rfl)) (one_encIt _) (by unfold maxLen; omega) (by omega) ?_; intro v5 w5 hA5)
            go_roundw
            case rel => exact ⟨k + 1, by omega, by go_num, by rw [HD2.out]; exact hA5⟩
            case measure => simp [intOf]; omega
          · obtain ⟨rfl, hb, hlo3, hcap3, hcm3⟩ := hado (by omega)
            have hz3 : ((ys.length : Int) == 0) = false := by rw [beq_eq_false_iff_ne]; omega
            have hk1 : (1 : Int) ≤ ys.length := by omega
            have hk2 : (ys.length : Int) - 1 < ys.length := by omega
            have hkn := pred_nat (k := ys.length) (by omega)
            have hkw := pred_wrap (k := ys.length) (n := ys.length) (by omega) (by omega) hmo
            have hLL := lastLt_get d (show 0 < ys.length by omega)
            have g2 := hxo (ys.length - 1) (by omega) 0 (by omega)
            obtain ⟨pv, hpv⟩ : ∃ pv, pv = ys[ys.length - 1]'(by omega) := ⟨_, rfl⟩
            rw [← hpv] at g2 hLL
            simp only [encItem, List.getD_cons_zero, Nat.add_zero] at g2
            clear hxo hado hpv
            cases hlt2 : Op.bytesLess pv.fKey.toList d.fKey.toList
            · have HD2 := hid (show salK is bs (k + 1) = salK is bs k by rw [← HYS.out, HD.out, hLL, hlt2]; rfl)
              clear h0 hLL
              go_wp2_with fail
              go_quiet (fail)
              go_wp2_with fail
              go_roundw
              case rel => exact ⟨k + 1, by omega, by go_num, by rw [HD2.out, ← HYS.out]; exact HA.out.below (by (repeat' (first | (with_reducible exact Below.refl _ _) | (with_reducible refine Below.alloc ?_ ?_ _) | (with_reducible refine Below.drew ?_) | (with_reducible refine below_drewN ?_ _) | (with_reducible refine Below.setCell ?_ ?_ _) | (with_reducible refine below_via ‹_› ?_ ?_) | (with_reducible refine below_grow ?_ ?_ _ _) | omega | (simp; done) | (simp; omega))))⟩
              case measure => simp [intOf]; omega
            · have HD2 := hid (show salK is bs (k + 1) = ys ++ [d] by rw [HD.out, hLL, hlt2]; rfl)
              clear h0 hLL
              go_wp2_with fail
              go_quiet (fail)
              go_wp2_with (at_builtin; refine wpList_push rfl (.tmp 49) (.tmp 54) 37 rfl i0 _ 32 Tryd.underlying37 hi iz0 iz1 iz2 rfl (by decide) (fun _ => rfl) d rfl HA.out (by (repeat' (first | (with_reducible exact Below.refl _ _) | (with_reducible refine Below.alloc ?_ ?_ _) | (with_reducible refine Below.drew ?_) | (with_reducible refine below_drewN ?_ _) | (with_reducible refine Below.setCell ?_ ?_ _) | (with_reducible refine below_via ‹_› ?_ ?_) | (with_reducible refine below_grow ?_ ?_ _ _) | omega | (simp; done) | (simp; omega)))) 55 1 (by first | rfl | (rw [size_drewN]; rfl)) (one_encIt _) (by unfold maxLen; omega) (by omega) ?_; intro v5 w5 hA5)
              go_roundw
              case rel => exact ⟨k + 1, by omega, by go_num, by rw [HD2.out]; exact hA5⟩
              case measure => simp [intOf]; omega
      · have e : k = is.length := by omega
        have hlI : ¬ (k : Int) < is.length := by omega
        have hD := hA.done (fun _ => rfl) (show Below w.heap.size w W from hb1.trans (hBW.mono hz1)) hz1
        rw [e] at hD
        have HD := hid hD
        clear hD e
        go_wp2_with fail
        go_ret2
        rw [HR2.out, HC2.out]
        exact itemsP_some HD.out.1 HD.out.2 rfl
  · have e0 : c ≠ 0 := by simpa using hc0
    have HR2 := hid (show salR s.data.toList = [] by rw [HR.out, if_neg e0])
    clear e0
    go_enter Tryd.func26, Tryd.ntmps26
    go_wp2_with fail
    refine (cs _).mono ?_
    rintro e w1 ⟨ui, vb, rfl, hb1, hSi, hSb⟩
    clear hSi hSb cs
    go_wp2_with fail
    go_ret2
    rw [HC.out]
    exact itemsP_none (by (repeat' (first | (with_reducible exact Below.refl _ _) | (with_reducible refine Below.alloc ?_ ?_ _) | (with_reducible refine Below.drew ?_) | (with_reducible refine below_drewN ?_ _) | (with_reducible refine Below.setCell ?_ ?_ _) | (with_reducible refine below_via ‹_› ?_ ?_) | (with_reducible refine below_grow ?_ ?_ _ _) | omega | (simp; done) | (simp; omega)))) HR2.out
end Go.Proofs.YtocpgnpdnoidnaaDoor
