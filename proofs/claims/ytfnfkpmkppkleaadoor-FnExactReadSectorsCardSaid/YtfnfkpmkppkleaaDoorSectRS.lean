/- Sectors read, the reference's side. -/
import Derived.Test.YtfnfkpmkppkleaaDoorSectRd
import Derived.Test.YtfnfkpmkppkleaaDoorShipRd
namespace Go.Proofs.YtfnfkpmkppkleaaDoor
open Go.RowKit Go.Sort
set_option linter.unusedVariables false
set_option maxRecDepth 100000

theorem one_encSec (y : SectorD) : ∀ u ∈ encSector y, u.oneCell' = true := by intro u hu; simp only [encSector, List.mem_cons, List.not_mem_nil, or_false] at hu; rcases hu with rfl | rfl | rfl <;> rfl
theorem lst_size (s : ByteArray) : s.data.toList.length = s.size := Array.length_toList
theorem cutB_two {c : UInt8} {l : List UInt8} {a b : ByteArray} (h : cutB c l = [a, b]) : cutAt c l = [a.data.toList, b.data.toList] := by
  have := congrArg (List.map fun x : ByteArray => x.data.toList) h
  rw [cutB, List.map_map] at this
  rw [← List.map_id (cutAt c l)]
  refine Eq.trans (List.map_congr_left fun p _ => ?_) this
  exact (bs_list p).symm
theorem toP_ext (r : ByteArray) : (r.extract 0 (r.size - 1)).data.toList = toP r.data.toList := by
  rw [ext_bs, bs_list, toP, lst_size]; simp
theorem coP_ext (r : ByteArray) : bs (coP r.data.toList) = r.extract (r.size - 1) r.size := by
  rw [ext_bs, coP, lst_size, List.take_of_length_le (by rw [List.length_drop, lst_size]; omega)]
theorem secP_two {p : List UInt8} {a r : ByteArray} (h : cutB 45 p = [a, r]) :
    secP p = if decide (2 ≤ r.size) && numB a.data.toList && numB (r.extract 0 (r.size - 1)).data.toList then some ⟨numV a.data.toList, numV (r.extract 0 (r.size - 1)).data.toList, r.extract (r.size - 1) r.size⟩ else none := by
  rw [secP, cutB_two h]
  simp only [lst_size, toP_ext, secV, coP_ext]
theorem secP_not {p : List UInt8} (h : (cutB 45 p).length ≠ 2) : secP p = none := by
  rw [cutB, List.length_map] at h
  unfold secP
  split
  · rename_i a r hc; rw [hc] at h; exact absurd rfl h
  · rfl
def SecsPost (o : Option (List SectorD)) (w : World) (e : Ending) (w' : World) : Prop :=
  ∃ v, e = .returned (.tuple #[v, .bool o.isSome]) ∧ Below w.heap.size w w' ∧ SlO w' w.heap.size 3 encSector v (o.getD [])
theorem secsPost_none {o : Option (List SectorD)} {w w' : World} (h : Below w.heap.size w w') (ho : o = none) : SecsPost o w (.returned (.tuple #[.slice none 0 0, .bool false])) w' := by
  subst ho; exact ⟨_, rfl, h, .inl ⟨none, 0, rfl, rfl, Nat.zero_le _⟩, fun g hg => by simp [Value.ownBlock] at hg⟩
theorem secsPost_some {o : Option (List SectorD)} {w w' : World} (h : Below w.heap.size w w') {xs : List SectorD} {v : Value} (ho : o = some xs) (hS : SlO w' w.heap.size 3 encSector v xs) : SecsPost o w (.returned (.tuple #[v, .bool true])) w' := by
  subst ho; exact ⟨v, rfl, h, hS⟩
theorem secsRd_dash {s : List UInt8} (h : s = [45]) : secsRd s = some [] := by rw [secsRd, if_pos h]
theorem secsRd_long {s : List UInt8} (h : s ≠ [45]) (hl : 12 < (cutAt 44 s).length) : secsRd s = none := by rw [secsRd, if_neg h, if_pos hl]
def secsV (o : Option (List SectorD)) : Option (List SectorD) := o.bind fun xs => if secB xs then some xs else none
theorem secsRd_go {s : List UInt8} (h : s ≠ [45]) (hl : ¬ 12 < (cutAt 44 s).length) : secsRd s = secsV (secsO secP (cutAt 44 s)) := by
  rw [secsRd, if_neg h, if_neg hl]
  cases secsO secP (cutAt 44 s) <;> rfl
theorem ok_secO {f : List UInt8 → Option SectorD} (hf : ∀ p d, f p = some d → okSector d) : ∀ {ps : List (List UInt8)} {xs : List SectorD}, secsO f ps = some xs → ∀ x ∈ xs, okSector x
  | [], xs, h => by injection h with h; subst h; intro x hx; cases hx
  | p :: r, xs, h => by
    simp only [secsO] at h
    split at h
    · rename_i d l h1 h2
      injection h with h
      subst h
      intro x hx
      rcases List.mem_cons.1 hx with rfl | hx
      · exact hf _ _ h1
      · exact ok_secO hf h2 x hx
    · cases h
theorem ok_secV (a r : List UInt8) : okSector (secV a r) := by
  refine ⟨numV_i64 _, numV_i64 _, ?_⟩
  show (bs (coP r)).size ≤ maxLen
  rw [bs_size, coP, List.length_drop]; unfold maxLen; omega
theorem ok_secP (p : List UInt8) (d : SectorD) (h : secP p = some d) : okSector d := by
  unfold secP at h
  split at h
  · split at h
    · injection h with h; subst h; exact ok_secV _ _
    · cases h
  · cases h
theorem slo_fresh3 (w : World) : SlO (w.alloc (.cells #[] 114)) w.heap.size 3 encSector (.slice (some ⟨w.heap.size, 0, none⟩) 0 0) [] := by
  refine ⟨.inl ⟨_, 0, rfl, rfl, Nat.zero_le _⟩, fun b hb => ?_⟩
  simp [Value.ownBlock] at hb
  subst hb
  exact ⟨by simp, Nat.le_refl _, fun j => World.frozen?_alloc_at _ _ _ _ rfl⟩
set_option maxHeartbeats 4000000 in
theorem c_l08Read (s : ByteArray) (w : World) (hs : (s.size : Int) ≤ 1048576) :
    Calls Tryd.prog 110 #[.string s] w (SecsPost (secsRd s.data.toList) w) := by
  obtain ⟨i0, hi, iz0, iz1, iz2⟩ := info_parts info_Sector
  cases hd : (s.toList == [45])
  case true =>
    have HR := hid (secsRd_dash (s := s.data.toList) (by have := beq_iff_eq.1 hd; rw [ByteArray.toList_eq] at this; exact this))
    go_enter Tryd.func110, Tryd.ntmps110
    go_wp2
    go_ret2
    exact secsPost_some (by (repeat' (first | (with_reducible exact Below.refl _ _) | (with_reducible refine Below.alloc ?_ ?_ _) | (with_reducible refine Below.drew ?_) | (with_reducible refine below_drewN ?_ _) | (with_reducible refine Below.setCell ?_ ?_ _) | (with_reducible refine below_via ‹_› ?_ ?_) | (with_reducible refine below_grow ?_ ?_ _ _) | omega | (simp; done) | (simp; omega)))) HR.out (slo_fresh3 w)
  case false =>
    have hd' : s.data.toList ≠ [45] := by
      intro e; rw [ByteArray.toList_eq, e] at hd; exact absurd hd (by decide)
    have csp := fun w' => c_l01Split 44 s w' hs
    have hcs := cutB_size 44 s
    go_enter Tryd.func110, Tryd.ntmps110
    go_wp2_with fail
    refine (csp _).mono ?_
    rintro e w1 ⟨v, rfl, hb1, hS1⟩
    have hz1 := hb1.size
    obtain ⟨ps, hps⟩ : ∃ ps, ps = cutB 44 s.data.toList := ⟨_, rfl⟩
    rw [← hps] at hS1 hcs
    have hpl : (cutAt 44 s.data.toList).length = ps.length := by rw [hps, cutB, List.length_map]
    have hpd : cutAt 44 s.data.toList = ps.map (·.data.toList) := by
      rw [hps, cutB, List.map_map]
      conv => lhs; rw [← List.map_id (cutAt 44 s.data.toList)]
      exact List.map_congr_left fun p _ => (bs_list p).symm
    obtain ⟨ad, cap, rfl⟩ := hS1.1.form
    by_cases h12 : 12 < ps.length
    · have HR := hid (secsRd_long hd' (by rw [hpl]; exact h12))
      have h12I : (12 : Int) < ps.length := by omega
      clear hps hpl hpd hS1 hcs
      go_wp2_with fail
      go_ret2
      exact secsPost_none (by (repeat' (first | (with_reducible exact Below.refl _ _) | (with_reducible refine Below.alloc ?_ ?_ _) | (with_reducible refine Below.drew ?_) | (with_reducible refine below_drewN ?_ _) | (with_reducible refine Below.setCell ?_ ?_ _) | (with_reducible refine below_via ‹_› ?_ ?_) | (with_reducible refine below_grow ?_ ?_ _ _) | omega | (simp; done) | (simp; omega)))) HR.out
    · have HG := hid (secsRd_go hd' (by rw [hpl]; exact h12))
      have h12I : ¬ (12 : Int) < ps.length := by omega
      have HPD := hid hpd
      have hp0 : 0 < ps.length := by
        cases hq : cutAt 44 s.data.toList with
        | nil => exact absurd hq (cut_ne _ _)
        | cons _ _ => rw [hq] at hpl; simp at hpl; omega
      obtain ⟨bb, off, rfl, hlo, hbb, hcl⟩ := cell_str hS1.1 rfl (k := 0) hp0
      have A1 := Acc.lit (α := SectorD) (W := w1.alloc (.cells #[] 114)) (w0 := w1) (e := 114) (Below.refl _ _) 3 encSector
      obtain ⟨W, hW⟩ : ∃ W, W = w1.alloc (.cells #[] 114) := ⟨_, rfl⟩
      rw [← hW] at A1
      have hBW : Below w1.heap.size w1 W := by rw [hW]; exact (Below.refl _ _).alloc (Nat.le_refl _) _
      have hzW : w1.heap.size < W.heap.size := by rw [hW]; simp
      have HW := hid hW
      clear hW hps hpl hpd hS1
      go_wp2_with fail
      (try rw [← HW.out])
      go_loopw [5, 6] (fun u i wr => ∃ (k : Nat) (xs : List SectorD), k ≤ ps.length ∧ i = .int .i64 k ∧ Hid (secsO secP ((ps.take k).map (·.data.toList)) = some xs) ∧ Acc W w1.heap.size 114 3 encSector wr u xs) (fun _ i _ => ps.length - (intOf i).toNat)
      case atStart => exact ⟨0, [], Nat.zero_le _, rfl, hid rfl, A1⟩
      case round =>
        clear A1
        obtain ⟨k, xs, hk, rfl, hO, hA⟩ := hrel
        have hxl : xs.length ≤ 12 := by
          have := secsO_len hO.out
          rw [List.length_map, List.length_take] at this; omega
        have hBr : Below w1.heap.size w1 wr := hBW.trans hA.keep
        have hBw : Below w.heap.size w wr := hb1.trans (hBr.mono hz1)
        have hzr := hBr.size
        by_cases hlt : k < ps.length
        · have hlI : (k : Int) < ps.length := by omega
          have hbr : bb < wr.heap.size := by omega
          have c0 := hA.cellAt (by omega) (by omega) (below_cell hBW hbb (hcl k hlt))
          have hsp := hcs _ (List.getElem_mem hlt)
          obtain ⟨p, hp⟩ : ∃ p, p = ps[k] := ⟨_, rfl⟩
          have hmem : p.data.toList ∈ ps.map (·.data.toList) := List.mem_map.2 ⟨p, by rw [hp]; exact List.getElem_mem hlt, rfl⟩
          have htk : (ps.take (k + 1)).map (·.data.toList) = (ps.take k).map (·.data.toList) ++ [p.data.toList] := by
            have e : ps.take (k + 1) = ps.take k ++ [ps[k]] := by simp
            rw [e, List.map_append, hp]; rfl
          rw [← hp] at c0 hsp
          have HB := hid (show secP p.data.toList = none → secsRd s.data.toList = none from fun h => by rw [HG.out, HPD.out, secsO_bad h hmem]; rfl)
          have HT := hid (show ∀ d, secP p.data.toList = some d → secsO secP ((ps.take (k + 1)).map (·.data.toList)) = some (xs ++ [d]) from fun d h => by rw [htk, secsO_snoc, hO.out, h])
          clear hp hmem htk hcl
          go_wp2_with fail
          refine (c_l01Split 45 p _ (by omega)).mono ?_
          rintro e w2 ⟨v2, rfl, hb2, hS2⟩
          have hz2 := hb2.size
          have hcs2 := cutB_size 45 p
          obtain ⟨ys, hys⟩ : ∃ ys, ys = cutB 45 p.data.toList := ⟨_, rfl⟩
          rw [← hys] at hS2 hcs2
          have HY := hid hys
          clear hys
          obtain ⟨ad2, cap2, rfl⟩ := hS2.1.form
          by_cases hy2 : ys.length = 2
          · obtain ⟨a, r, rfl⟩ := two_of hy2
            obtain ⟨bc, of2, rfl, hlo2, hbc, hcl2⟩ := cell_str hS2.1 rfl (k := 0) (by simp)
            have d0 := hcl2 0 (by simp)
            have d1 := hcl2 1 (by simp)
            simp only [List.getElem_cons_zero, List.getElem_cons_succ, Nat.add_zero] at d0 d1
            have hsa : (a.size : Int) ≤ 1048576 := by have := hcs2 a (by simp); omega
            have hsr : (r.size : Int) ≤ 1048576 := by have := hcs2 r (by simp); omega
            have HP := hid (secP_two HY.out.symm)
            have hz2' : (((2 : Nat) : Int) != 2) = false := rfl
            clear hS2 hcs2 hcl2 hy2 c0
            by_cases hr2 : r.size < 2
            · have hr2I : (r.size : Int) < 2 := by omega
              have HR := hid (HB.out (by rw [HP.out, show decide (2 ≤ r.size) = false by simp; omega]; rfl))
              go_wp2_with fail
              go_ret2
              exact secsPost_none (by (repeat' (first | (with_reducible exact Below.refl _ _) | (with_reducible refine Below.alloc ?_ ?_ _) | (with_reducible refine Below.drew ?_) | (with_reducible refine below_drewN ?_ _) | (with_reducible refine Below.setCell ?_ ?_ _) | (with_reducible refine below_via ‹_› ?_ ?_) | (with_reducible refine below_grow ?_ ?_ _ _) | omega | (simp; done) | (simp; omega)))) HR.out
            · have hr2I : ¬ (r.size : Int) < 2 := by omega
              obtain ⟨n, hn⟩ : ∃ n, n = r.size - 1 := ⟨_, rfl⟩
              have hnr : (n : Int) ≤ r.size := by omega
              have hw : IntKind.i64.wrap ((r.size : Int) - 1) = (n : Int) := by rw [IntWalk.i64_in _ (by omega)]; omega
              rw [← hn] at HP
              obtain ⟨q, hq⟩ : ∃ q, q = r.extract 0 n := ⟨_, rfl⟩
              obtain ⟨c, hc⟩ : ∃ c, c = r.extract n r.size := ⟨_, rfl⟩
              have hqs : (q.size : Int) ≤ 1048576 := by rw [hq, ByteArray.size_extract]; omega
              rw [← hq, ← hc] at HP
              have HQ := hid (And.intro hq hc)
              have ca : ∀ w', Calls Tryd.prog 104 #[.string a] w' fun e w'' => e = .returned (.tuple #[.int .i64 (numV a.data.toList), .bool (numB a.data.toList)]) ∧ w' = w'' := fun w' => c_l01Number a w' hsa
              have cb : ∀ w', Calls Tryd.prog 104 #[.string (r.extract 0 n)] w' fun e w'' => e = .returned (.tuple #[.int .i64 (numV q.data.toList), .bool (numB q.data.toList)]) ∧ w' = w'' := fun w' => by rw [← hq]; exact c_l01Number q w' hqs
              clear hn hq hc
              go_wp2_with fail
              refine (ca _).mono ?_
              rintro e w' ⟨rfl, rfl⟩
              go_wp2_with fail
              refine (cb _).mono ?_
              rintro e w' ⟨rfl, rfl⟩
              obtain ⟨x, hx⟩ : ∃ x, x = numV a.data.toList := ⟨_, rfl⟩
              obtain ⟨y, hy⟩ : ∃ y, y = numV q.data.toList := ⟨_, rfl⟩
              have HD2 := hid (show decide (2 ≤ r.size) = true by simp; omega)
              have HXY := hid (And.intro hx hy)
              rw [← hx, ← hy]
              clear hx hy ca cb
              cases o1 : numB a.data.toList
              · have HR := hid (HB.out (by rw [HP.out, o1, HD2.out]; rfl))
                go_wp2_with fail
                go_ret2
                exact secsPost_none (by (repeat' (first | (with_reducible exact Below.refl _ _) | (with_reducible refine Below.alloc ?_ ?_ _) | (with_reducible refine Below.drew ?_) | (with_reducible refine below_drewN ?_ _) | (with_reducible refine Below.setCell ?_ ?_ _) | (with_reducible refine below_via ‹_› ?_ ?_) | (with_reducible refine below_grow ?_ ?_ _ _) | omega | (simp; done) | (simp; omega)))) HR.out
              · cases o2 : numB q.data.toList
                · have HR := hid (HB.out (by rw [HP.out, o1, o2, HD2.out]; rfl))
                  go_wp2_with fail
                  go_ret2
                  exact secsPost_none (by (repeat' (first | (with_reducible exact Below.refl _ _) | (with_reducible refine Below.alloc ?_ ?_ _) | (with_reducible refine Below.drew ?_) | (with_reducible refine below_drewN ?_ _) | (with_reducible refine Below.setCell ?_ ?_ _) | (with_reducible refine below_via ‹_› ?_ ?_) | (with_reducible refine below_grow ?_ ?_ _ _) | omega | (simp; done) | (simp; omega)))) HR.out
                · have HN := hid (HT.out ⟨x, y, c⟩ (by rw [HP.out, o1, o2, HD2.out, ← HXY.out.1, ← HXY.out.2]; rfl))
                  go_wp2_with (at_builtin; rw [← HQ.out.2]; refine wpList_push rfl (.tmp 70) (.tmp 79) 52 rfl i0 _ 32 Tryd.underlying52 hi iz0 iz1 iz2 rfl (by decide) (fun _ => rfl) (⟨x, y, c⟩ : SectorD) rfl hA (by (repeat' (first | (with_reducible exact Below.refl _ _) | (with_reducible refine Below.alloc ?_ ?_ _) | (with_reducible refine Below.drew ?_) | (with_reducible refine below_drewN ?_ _) | (with_reducible refine Below.setCell ?_ ?_ _) | (with_reducible refine below_via ‹_› ?_ ?_) | (with_reducible refine below_grow ?_ ?_ _ _) | omega | (simp; done) | (simp; omega)))) 114 1 rfl (one_encSec _) (by unfold maxLen; omega) (by omega) ?_; intro v5 w5 hA5)
                  go_roundw
                  case rel => exact ⟨k + 1, xs ++ [⟨x, y, c⟩], by omega, by go_num, HN, hA5⟩
                  case measure => simp [intOf]; omega
          · have hz2' : ((ys.length : Int) != 2) = true := by simp; omega
            have HR := hid (HB.out (secP_not (by rw [← HY.out]; exact hy2)))
            go_wp2_with fail
            go_ret2
            exact secsPost_none (by (repeat' (first | (with_reducible exact Below.refl _ _) | (with_reducible refine Below.alloc ?_ ?_ _) | (with_reducible refine Below.drew ?_) | (with_reducible refine below_drewN ?_ _) | (with_reducible refine Below.setCell ?_ ?_ _) | (with_reducible refine below_via ‹_› ?_ ?_) | (with_reducible refine below_grow ?_ ?_ _ _) | omega | (simp; done) | (simp; omega)))) HR.out
        · have e : k = ps.length := by omega
          have hlI : ¬ (k : Int) < ps.length := by omega
          have hxo : secsO secP (cutAt 44 s.data.toList) = some xs := by rw [HPD.out]; have := hO.out; rw [e, List.take_length] at this; exact this
          have hok := ok_secO ok_secP hxo
          have HX := hid (show secsRd s.data.toList = if secB xs then some xs else none by rw [HG.out, hxo]; rfl)
          have hS := SlA.mono (hA.slo (fun _ => rfl)).1 (Nat.zero_le _)
          have HD := hid (hA.done (fun _ => rfl) (show Below w.heap.size w W from hb1.trans (hBW.mono hz1)) hz1)
          clear hxo e hcl hA
          cases hq : secB xs
          · have HR := hid (show secsRd s.data.toList = none by rw [HX.out, hq]; rfl)
            go_wp2_with (go_at_call 80; refine (c_l08Ok _ xs _ hS hok).mono ?_; rintro e w2 ⟨rfl, hb2⟩; have hz2 := hb2.size)
            go_ret2
            exact secsPost_none (by (repeat' (first | (with_reducible exact Below.refl _ _) | (with_reducible refine Below.alloc ?_ ?_ _) | (with_reducible refine Below.drew ?_) | (with_reducible refine below_drewN ?_ _) | (with_reducible refine Below.setCell ?_ ?_ _) | (with_reducible refine below_via ‹_› ?_ ?_) | (with_reducible refine below_grow ?_ ?_ _ _) | omega | (simp; done) | (simp; omega)))) HR.out
          · have HR := hid (show secsRd s.data.toList = some xs by rw [HX.out, hq]; rfl)
            go_wp2_with (go_at_call 80; refine (c_l08Ok _ xs _ hS hok).mono ?_; rintro e w2 ⟨rfl, hb2⟩; have hz2 := hb2.size)
            go_ret2
            exact secsPost_some (by (repeat' (first | (with_reducible exact Below.refl _ _) | (with_reducible refine Below.alloc ?_ ?_ _) | (with_reducible refine Below.drew ?_) | (with_reducible refine below_drewN ?_ _) | (with_reducible refine Below.setCell ?_ ?_ _) | (with_reducible refine below_via ‹_› ?_ ?_) | (with_reducible refine below_grow ?_ ?_ _ _) | omega | (simp; done) | (simp; omega)))) HR.out (HD.out.2.below hb2 (Nat.le_refl _))
end Go.Proofs.YtfnfkpmkppkleaaDoor
