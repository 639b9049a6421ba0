/- Sectors read, the program's side. -/
import Derived.Test.YtabbhlehbhadiaaGreatDoorSectP
import Derived.Test.YtabbhlehbhadiaaGreatDoorReadD
namespace Go.Proofs.YtabbhlehbhadiaaGreatDoor
open Go.RowKit Go.Sort
set_option linter.unusedVariables false
set_option maxRecDepth 100000

theorem secQ_two {p : List UInt8} {a r : ByteArray} (ha : (Lib.cut p [45]).1 = a.data.toList) (hr : (Lib.cut p [45]).2.1 = r.data.toList) :
    secQ p = if decide (r.data.toList ≠ []) && numB a.data.toList && numB (r.extract 0 (r.size - 1)).data.toList then some ⟨numV a.data.toList, numV (r.extract 0 (r.size - 1)).data.toList, r.extract (r.size - 1) r.size⟩ else none := by
  rw [secQ, ha, hr]
  simp only [toP_ext, secV, coP_ext]
theorem ok_secQ (p : List UInt8) (d : SectorD) (h : secQ p = some d) : okSector d := by
  unfold secQ at h
  split at h
  · injection h with h; subst h; exact ok_secV _ _
  · cases h
def secsVI (s : List UInt8) (o : Option (List SectorD)) : Option (List SectorD) := o.bind fun xs => if secB xs && (secsT xs == s) then some xs else none
theorem secsRdI_go {s : List UInt8} (h : s ≠ [45]) : secsRdI s = secsVI s (secsO secQ (cutAt 44 s)) := by
  rw [secsRdI, if_neg h]
  cases secsO secQ (cutAt 44 s) <;> rfl
theorem secsRdI_long {s : List UInt8} (h : s ≠ [45]) (hl : 12 < (cutAt 44 s).length) : secsRdI s = none := by rw [secsRdI_eq, secsRd_long h hl]
theorem cut45_len (s : ByteArray) : (Lib.cut s.data.toList [45]).1.length ≤ s.size ∧ (Lib.cut s.data.toList [45]).2.1.length ≤ s.size := by
  have h0 := lst_size s
  unfold Lib.cut
  split
  · simp only [List.length_take, List.length_drop]; omega
  · simp only [List.length_nil]; omega
set_option maxHeartbeats 4000000 in
theorem c_impl_ReadSectors (s : ByteArray) (w : World) (hs : (s.size : Int) ≤ 1048576) (hrd : Rd w) :
    Calls Tryz.prog 26 #[.string s] w (SecsPost (secsRd s.data.toList) w) := by
  rw [← secsRdI_eq]
  obtain ⟨i0, hi, iz0, iz1, iz2⟩ := info_parts info_Sector
  cases hd : (s.toList == [45])
  case true =>
    have HR := hid (show secsRdI s.data.toList = some [] by rw [secsRdI_eq]; exact secsRd_dash (by have := beq_iff_eq.1 hd; rw [ByteArray.toList_eq] at this; exact this))
    go_enter Tryz.func26, Tryz.ntmps26
    go_wp2
    go_ret2
    exact secsPost_some (by (repeat' (first | (with_reducible exact Below.refl _ _) | (with_reducible refine Below.alloc ?_ ?_ _) | (with_reducible refine Below.drew ?_) | (with_reducible refine below_drewN ?_ _) | (with_reducible refine Below.setCell ?_ ?_ _) | (with_reducible refine below_via ‹_› ?_ ?_) | (with_reducible refine below_grow ?_ ?_ _ _) | omega | (simp; done) | (simp; omega)))) HR.out ⟨.inl ⟨none, 0, rfl, rfl, Nat.zero_le _⟩, fun g hg => by simp [Value.ownBlock] at hg⟩
  case false =>
    have hd' : s.data.toList ≠ [45] := by
      intro e; rw [ByteArray.toList_eq, e] at hd; exact absurd hd (by decide)
    have csp := fun w' hr => c_Split 44 s w' hs hr
    have hcs := cutB_size 44 s
    have A1 := Acc.lit (α := SectorD) (W := w.alloc (.cells #[] 45)) (w0 := w) (e := 45) (Below.refl _ _) 3 encSector
    obtain ⟨W, hW⟩ : ∃ W, W = w.alloc (.cells #[] 45) := ⟨_, rfl⟩
    rw [← hW] at A1
    have hBW : Below w.heap.size w W := by rw [hW]; exact (Below.refl _ _).alloc (Nat.le_refl _) _
    have hzW : w.heap.size + 1 = W.heap.size := by rw [hW]; simp
    have hzW' : w.heap.size < W.heap.size := by omega
    have HW := hid hW
    clear hW hzW
    go_enter Tryz.func26, Tryz.ntmps26
    go_wp2_with fail
    (try rw [← HW.out])
    refine (csp _ (hrd.at hBW)).mono ?_
    rintro e w1 ⟨v, rfl, hb1, hS1⟩
    have hz1 := hb1.size
    obtain ⟨ps, hps⟩ : ∃ ps, ps = cutB 44 s.data.toList := ⟨_, rfl⟩
    rw [← hps] at hS1 hcs
    have hpl : (cutAt 44 s.data.toList).length = ps.length := by rw [hps, cutB, List.length_map]
    have hpd : cutAt 44 s.data.toList = ps.map (·.data.toList) := by
      rw [hps, cutB, List.map_map]
      conv => lhs; rw [← List.map_id (cutAt 44 s.data.toList)]
      exact List.map_congr_left fun p _ => (bs_list p).symm
    obtain ⟨ad, cap, rfl⟩ := hS1.1.form
    have HG := hid (secsRdI_go hd')
    have HLO := hid (show 12 < ps.length → secsRdI s.data.toList = none from fun h => secsRdI_long hd' (by rw [hpl]; exact h))
    have HPD := hid hpd
    have hp0 : 0 < ps.length := by
      cases hq : cutAt 44 s.data.toList with
      | nil => exact absurd hq (cut_ne _ _)
      | cons _ _ => rw [hq] at hpl; simp at hpl; omega
    obtain ⟨bb, off, rfl, hlo, hbb, hcl⟩ := cell_str hS1.1 rfl (k := 0) hp0
    have hpm : ps.length ≤ 1048577 := by
      have := cutAt_len 44 s.data.toList
      rw [hpl, lst_size] at this; omega
    have A2 := A1.below hb1
    clear hps hpl hpd hS1 A1
    go_wp2_with fail
    go_loopw [4, 21] (fun u i wr => ∃ (k : Nat) (xs : List SectorD), k ≤ ps.length ∧ i = .int .i64 k ∧ Hid (secsO secQ ((ps.take k).map (·.data.toList)) = some xs) ∧ xs.length ≤ 13 ∧ Acc W w.heap.size 45 3 encSector wr u xs ∧ Hid (∀ j (hj : j < ps.length), wr.cell? ⟨bb, off + j, none⟩ = some (.string ps[j])) ∧ w1.heap.size ≤ wr.heap.size ∧ Hid (u.ownBlock ≠ some bb)) (fun _ i _ => ps.length - (intOf i).toNat)
    case atStart => exact ⟨0, [], Nat.zero_le _, rfl, hid rfl, Nat.zero_le _, A2, hid hcl, Nat.le_refl _, hid (by intro e; simp [Value.ownBlock] at e; omega)⟩
    case round =>
      clear A2
      obtain ⟨k, xs, hk, rfl, hO, h13, hA, HC, hzr, HNB⟩ := hrel
      obtain ⟨adu, cpu, rfl⟩ := (hA.slo (fun _ => rfl)).1.form
      have hBr : Below w.heap.size w wr := hBW.trans hA.keep
      have hrr := hrd.at hBr
      by_cases hlt : k < ps.length
      · have hlI : (k : Int) < ps.length := by omega
        have hbr : bb < wr.heap.size := by omega
        have c0 := HC.out k hlt
        have hsp := hcs _ (List.getElem_mem hlt)
        obtain ⟨p, hp⟩ : ∃ p, p = ps[k] := ⟨_, rfl⟩
        have hmem : p.data.toList ∈ ps.map (·.data.toList) := List.mem_map.2 ⟨p, by rw [hp]; exact List.getElem_mem hlt, rfl⟩
        have htk : (ps.take (k + 1)).map (·.data.toList) = (ps.take k).map (·.data.toList) ++ [p.data.toList] := by
          have e : ps.take (k + 1) = ps.take k ++ [ps[k]] := by simp
          rw [e, List.map_append, hp]; rfl
        rw [← hp] at c0 hsp
        have HB := hid (show secQ p.data.toList = none → secsRdI s.data.toList = none from fun h => by rw [HG.out, HPD.out, secsO_bad h hmem]; rfl)
        have HT := hid (show ∀ d, secQ p.data.toList = some d → secsO secQ ((ps.take (k + 1)).map (·.data.toList)) = some (xs ++ [d]) from fun d h => by rw [htk, secsO_snoc, hO.out, h])
        have hxk : xs.length = k := by
          have := secsO_len hO.out
          rw [List.length_map, List.length_take] at this; omega
        have HXK := hid hxk
        clear hp hmem htk hcl hxk
        obtain ⟨m, hm⟩ := hrr.mx
        have ccut : Calls Tryz.prog 63 #[.string p, .string ⟨#[45]⟩] wr fun e w'' => e = .returned (.tuple #[.string (bs (Lib.cut p.data.toList [45]).1), .string (bs (Lib.cut p.data.toList [45]).2.1), .bool (Lib.cut p.data.toList [45]).2.2]) ∧ ∃ n, w'' = wr.drewN n := Tryz.strings_Cut p ⟨#[45]⟩ m wr (by omega) hm
        have hcl2 := cut45_len p
        obtain ⟨a, ha⟩ : ∃ a, a = bs (Lib.cut p.data.toList [45]).1 := ⟨_, rfl⟩
        obtain ⟨r, hr⟩ : ∃ r, r = bs (Lib.cut p.data.toList [45]).2.1 := ⟨_, rfl⟩
        obtain ⟨t, ht⟩ : ∃ t, t = (Lib.cut p.data.toList [45]).2.2 := ⟨_, rfl⟩
        have HP := hid (secQ_two (p := p.data.toList) (a := a) (r := r) (by rw [ha, bs_list]) (by rw [hr, bs_list]))
        have hsa : (a.size : Int) ≤ 1048576 := by rw [ha, bs_size]; omega
        have hsr : (r.size : Int) ≤ 1048576 := by rw [hr, bs_size]; omega
        rw [← ha, ← hr, ← ht] at ccut
        clear ha hr ht hcl2 hm
        go_wp2_with fail
        refine ccut.mono ?_
        rintro e w2 ⟨rfl, n2, hw2⟩
        have hb2 : Below wr.heap.size wr w2 := by rw [hw2]; exact below_drewN (Below.refl _ _) n2
        have hz2 := hb2.size
        clear hw2 c0 ccut
        have hr2 := hrr.at hb2
        cases hre : (r.toList == [])
        case true =>
          have h0 : r.data.toList = [] := by have := beq_iff_eq.1 hre; rw [ByteArray.toList_eq] at this; exact this
          have HR := hid (HB.out (by rw [HP.out, h0]; rfl))
          have h0' : r.toList = [] := by rw [ByteArray.toList_eq]; exact h0
          clear h0
          go_wp2_with fail
          go_ret2
          exact secsPost_none (by (repeat' (first | (with_reducible exact Below.refl _ _) | (with_reducible refine Below.alloc ?_ ?_ _) | (with_reducible refine Below.drew ?_) | (with_reducible refine below_drewN ?_ _) | (with_reducible refine Below.setCell ?_ ?_ _) | (with_reducible refine below_via ‹_› ?_ ?_) | (with_reducible refine below_grow ?_ ?_ _ _) | omega | (simp; done) | (simp; omega)))) HR.out
        case false =>
          have h0 : r.data.toList ≠ [] := by
            intro e; rw [ByteArray.toList_eq, e] at hre; exact absurd hre (by decide)
          have hr1 : 1 ≤ r.size := by
            rw [← lst_size]
            cases hq : r.data.toList with
            | nil => exact absurd hq h0
            | cons _ _ => simp
          have H0 := hid h0
          clear h0
          cases hfew : decide ((xs.length : Int) ≤ 12)
          · have HR := hid (HLO.out (by have := HXK.out; simp at hfew; omega))
            go_wp2_with (first | (go_at_call 55; refine (c_few _ _ _).mono ?_; rintro e w' ⟨rfl, rfl⟩))
            go_ret2
            exact secsPost_none (by (repeat' (first | (with_reducible exact Below.refl _ _) | (with_reducible refine Below.alloc ?_ ?_ _) | (with_reducible refine Below.drew ?_) | (with_reducible refine below_drewN ?_ _) | (with_reducible refine Below.setCell ?_ ?_ _) | (with_reducible refine below_via ‹_› ?_ ?_) | (with_reducible refine below_grow ?_ ?_ _ _) | omega | (simp; done) | (simp; omega)))) HR.out
          · have h12 : xs.length ≤ 12 := by simp at hfew; omega
            obtain ⟨n, hn⟩ : ∃ n, n = r.size - 1 := ⟨_, rfl⟩
            have hnr : (n : Int) ≤ r.size := by omega
            have hw : IntKind.i64.wrap ((r.size : Int) - 1) = (n : Int) := by rw [IntWalk.i64_in _ (by omega)]; omega
            rw [← hn] at HP
            obtain ⟨q, hq⟩ : ∃ q, q = r.extract 0 n := ⟨_, rfl⟩
            obtain ⟨c, hc⟩ : ∃ c, c = r.extract n r.size := ⟨_, rfl⟩
            have hqs : (q.size : Int) ≤ 1048576 := by rw [hq, ByteArray.size_extract]; omega
            rw [← hq, ← hc] at HP
            have HQ := hid (And.intro hq hc)
            obtain ⟨x, hx⟩ : ∃ x, x = numV a.data.toList := ⟨_, rfl⟩
            obtain ⟨y, hy⟩ : ∃ y, y = numV q.data.toList := ⟨_, rfl⟩
            have ca : ∀ w', Rd w' → Calls Tryz.prog 37 #[.string a] w' fun e w'' => e = .returned (.tuple #[.int .i64 x, .bool (numB a.data.toList)]) ∧ Below w'.heap.size w' w'' := fun w' h => by rw [hx]; exact c_ReadDecimal a w' hsa h
            have cb : ∀ w', Rd w' → Calls Tryz.prog 37 #[.string (r.extract 0 n)] w' fun e w'' => e = .returned (.tuple #[.int .i64 y, .bool (numB q.data.toList)]) ∧ Below w'.heap.size w' w'' := fun w' h => by rw [← hq, hy]; exact c_ReadDecimal q w' hqs h
            have HXY := hid (And.intro hx hy)
            clear hn hq hc hx hy
            go_wp2_with (first | (go_at_call 55; refine (c_few _ _ _).mono ?_; rintro e w' ⟨rfl, rfl⟩) | (go_at_call 37; fail))
            refine (ca _ (hrr.at (by (repeat' (first | (with_reducible exact Below.refl _ _) | (with_reducible refine Below.alloc ?_ ?_ _) | (with_reducible refine Below.drew ?_) | (with_reducible refine below_drewN ?_ _) | (with_reducible refine Below.setCell ?_ ?_ _) | (with_reducible refine below_via ‹_› ?_ ?_) | (with_reducible refine below_grow ?_ ?_ _ _) | omega | (simp; done) | (simp; omega)))))).mono ?_
            rintro e w3 ⟨rfl, hb3⟩
            have hz3 := hb3.size
            go_wp2_with fail
            refine (cb _ (hrr.at (by (repeat' (first | (with_reducible exact Below.refl _ _) | (with_reducible refine Below.alloc ?_ ?_ _) | (with_reducible refine Below.drew ?_) | (with_reducible refine below_drewN ?_ _) | (with_reducible refine Below.setCell ?_ ?_ _) | (with_reducible refine below_via ‹_› ?_ ?_) | (with_reducible refine below_grow ?_ ?_ _ _) | omega | (simp; done) | (simp; omega)))))).mono ?_
            rintro e w4 ⟨rfl, hb4⟩
            have hz4 := hb4.size
            clear ca cb
            cases o1 : numB a.data.toList
            · have HR := hid (HB.out (by rw [HP.out, o1]; simp))
              go_wp2_with fail
              go_ret2
              exact secsPost_none (by (repeat' (first | (with_reducible exact Below.refl _ _) | (with_reducible refine Below.alloc ?_ ?_ _) | (with_reducible refine Below.drew ?_) | (with_reducible refine below_drewN ?_ _) | (with_reducible refine Below.setCell ?_ ?_ _) | (with_reducible refine below_via ‹_› ?_ ?_) | (with_reducible refine below_grow ?_ ?_ _ _) | omega | (simp; done) | (simp; omega)))) HR.out
            · cases o2 : numB q.data.toList
              · have HR := hid (HB.out (by rw [HP.out, o1, o2]; simp))
                go_wp2_with fail
                go_ret2
                exact secsPost_none (by (repeat' (first | (with_reducible exact Below.refl _ _) | (with_reducible refine Below.alloc ?_ ?_ _) | (with_reducible refine Below.drew ?_) | (with_reducible refine below_drewN ?_ _) | (with_reducible refine Below.setCell ?_ ?_ _) | (with_reducible refine below_via ‹_› ?_ ?_) | (with_reducible refine below_grow ?_ ?_ _ _) | omega | (simp; done) | (simp; omega)))) HR.out
              · have HN := hid (HT.out ⟨x, y, c⟩ (by rw [HP.out, o1, o2, ← HXY.out.1, ← HXY.out.2]; simp [H0.out]))
                go_wp2_with (at_builtin; rw [← HQ.out.2]; refine wpList_pushG rfl (.tmp 60) (.tmp 67) 43 rfl i0 _ 32 Tryz.underlying43 hi iz0 iz1 iz2 rfl (by decide) (fun _ => rfl) (⟨x, y, c⟩ : SectorD) rfl hA (by (repeat' (first | (with_reducible exact Below.refl _ _) | (with_reducible refine Below.alloc ?_ ?_ _) | (with_reducible refine Below.drew ?_) | (with_reducible refine below_drewN ?_ _) | (with_reducible refine Below.setCell ?_ ?_ _) | (with_reducible refine below_via ‹_› ?_ ?_) | (with_reducible refine below_grow ?_ ?_ _ _) | omega | (simp; done) | (simp; omega)))) 45 1 rfl (one_encSec _) (by unfold maxLen; omega) (by omega) ?_; intro v5 w5 hA5 hg5 hx5)
                have HC5 := hid (show ∀ j (hj : j < ps.length), w5.cell? ⟨bb, off + j, none⟩ = some (.string ps[j]) from fun j hj => hg5.cell (a := ⟨bb, off + j, none⟩) (below_cell (show Below wr.heap.size wr _ by (repeat' (first | (with_reducible exact Below.refl _ _) | (with_reducible refine Below.alloc ?_ ?_ _) | (with_reducible refine Below.drew ?_) | (with_reducible refine below_drewN ?_ _) | (with_reducible refine Below.setCell ?_ ?_ _) | (with_reducible refine below_via ‹_› ?_ ?_) | (with_reducible refine below_grow ?_ ?_ _ _) | omega | (simp; done) | (simp; omega)))) hbr (HC.out j hj)) (Ne.symm HNB.out))
                have hz5 := hg5.size
                simp at hz5
                have HNB5 := hid (show v5.ownBlock ≠ some bb from fun e => by
                  rcases hx5 with h | h
                  · exact HNB.out (h ▸ e)
                  · rw [h] at e; injection e with e; omega)
                go_roundw
                case rel => exact ⟨k + 1, xs ++ [⟨x, y, c⟩], by omega, by go_num, HN, by simp; omega, hA5, HC5, by omega, HNB5⟩
                case measure => simp [intOf]; omega
      · have e : k = ps.length := by omega
        have hlI : ¬ (k : Int) < ps.length := by omega
        have hxo : secsO secQ (cutAt 44 s.data.toList) = some xs := by rw [HPD.out]; have := hO.out; rw [e, List.take_length] at this; exact this
        have hok := ok_secO ok_secQ hxo
        have HX := hid (show secsRdI s.data.toList = if secB xs && (secsT xs == s.data.toList) then some xs else none by rw [HG.out, hxo]; rfl)
        have hS := SlA.mono (hA.slo (fun _ => rfl)).1 (Nat.zero_le _)
        have HD := hid (hA.done (fun _ => rfl) hBW (Nat.le_refl _))
        clear hxo e hcl hA
        cases hq : secB xs
        · have HR := hid (show secsRdI s.data.toList = none by rw [HX.out, hq]; rfl)
          go_wp2_with (go_at_call 49; refine (c_impl_ValidSectors _ xs _ hS hok (by omega)).mono ?_; rintro e w2 ⟨rfl, hb2⟩; have hz2 := hb2.size)
          go_ret2
          exact secsPost_none (by (repeat' (first | (with_reducible exact Below.refl _ _) | (with_reducible refine Below.alloc ?_ ?_ _) | (with_reducible refine Below.drew ?_) | (with_reducible refine below_drewN ?_ _) | (with_reducible refine Below.setCell ?_ ?_ _) | (with_reducible refine below_via ‹_› ?_ ?_) | (with_reducible refine below_grow ?_ ?_ _ _) | omega | (simp; done) | (simp; omega)))) HR.out
        · have HE := hid (show secsR xs = bs (secsT xs) by rw [secsR, hq]; rfl)
          cases hq2 : ((secsR xs).toList == s.toList)
          · have hq3 : ((secsR xs).toList != s.toList) = true := by simp [bne, hq2]
            have HR := hid (show secsRdI s.data.toList = none by
              have h5 : (secsT xs == s.data.toList) = false := by rw [HE.out, ByteArray.toList_eq, ByteArray.toList_eq, bs_list] at hq2; exact hq2
              rw [HX.out, hq, h5]; rfl)
            go_wp2_with (first | (go_at_call 49; refine (c_impl_ValidSectors _ xs _ hS hok (by omega)).mono ?_; rintro e w2 ⟨rfl, hb2⟩; have hz2 := hb2.size; have hS2 := hS.at hb2) | (go_at_call 27; refine (c_impl_SectorsText _ xs _ hS2 hok (by omega) (hrr.pow.at (by (repeat' (first | (with_reducible exact Below.refl _ _) | (with_reducible refine Below.alloc ?_ ?_ _) | (with_reducible refine Below.drew ?_) | (with_reducible refine below_drewN ?_ _) | (with_reducible refine Below.setCell ?_ ?_ _) | (with_reducible refine below_via ‹_› ?_ ?_) | (with_reducible refine below_grow ?_ ?_ _ _) | omega | (simp; done) | (simp; omega)))))).mono ?_; rintro e w3 ⟨rfl, hb3⟩; have hz3 := hb3.size))
            go_ret2
            exact secsPost_none (by (repeat' (first | (with_reducible exact Below.refl _ _) | (with_reducible refine Below.alloc ?_ ?_ _) | (with_reducible refine Below.drew ?_) | (with_reducible refine below_drewN ?_ _) | (with_reducible refine Below.setCell ?_ ?_ _) | (with_reducible refine below_via ‹_› ?_ ?_) | (with_reducible refine below_grow ?_ ?_ _ _) | omega | (simp; done) | (simp; omega)))) HR.out
          · have hq3 : ((secsR xs).toList != s.toList) = false := by simp [bne, hq2]
            have HR := hid (show secsRdI s.data.toList = some xs by
              have h5 : (secsT xs == s.data.toList) = true := by rw [HE.out, ByteArray.toList_eq, ByteArray.toList_eq, bs_list] at hq2; exact hq2
              rw [HX.out, hq, h5]; rfl)
            go_wp2_with (first | (go_at_call 49; refine (c_impl_ValidSectors _ xs _ hS hok (by omega)).mono ?_; rintro e w2 ⟨rfl, hb2⟩; have hz2 := hb2.size; have hS2 := hS.at hb2) | (go_at_call 27; refine (c_impl_SectorsText _ xs _ hS2 hok (by omega) (hrr.pow.at (by (repeat' (first | (with_reducible exact Below.refl _ _) | (with_reducible refine Below.alloc ?_ ?_ _) | (with_reducible refine Below.drew ?_) | (with_reducible refine below_drewN ?_ _) | (with_reducible refine Below.setCell ?_ ?_ _) | (with_reducible refine below_via ‹_› ?_ ?_) | (with_reducible refine below_grow ?_ ?_ _ _) | omega | (simp; done) | (simp; omega)))))).mono ?_; rintro e w3 ⟨rfl, hb3⟩; have hz3 := hb3.size))
            go_ret2
            exact secsPost_some (by (repeat' (first | (with_reducible exact Below.refl _ _) | (with_reducible refine Below.alloc ?_ ?_ _) | (with_reducible refine Below.drew ?_) | (with_reducible refine below_drewN ?_ _) | (with_reducible refine Below.setCell ?_ ?_ _) | (with_reducible refine below_via ‹_› ?_ ?_) | (with_reducible refine below_grow ?_ ?_ _ _) | omega | (simp; done) | (simp; omega)))) HR.out ((HD.out.2.below hb2 (Nat.le_refl _)).below hb3 (Nat.le_refl _))
theorem secs_len (s : List UInt8) : ((secsRd s).getD []).length ≤ 1099511627776 := by
  cases h : secsRd s with
  | none => simp
  | some xs =>
    have := (secB_in ((secsRd_iff s xs).1 h).1).1
    show xs.length ≤ _
    omega
end Go.Proofs.YtabbhlehbhadiaaGreatDoor
