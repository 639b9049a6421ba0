/- The arcs that are lit, and those that are dark: the reference's side. -/
import Derived.Test.YtljipgjgjobaaaaSimp
namespace Go.Proofs.Ytljipgjgjobaaaa
open Go.RowKit Go.Sort
set_option maxRecDepth 100000

theorem toList_inj {a b : ByteArray} : a.toList = b.toList ↔ a = b := by
  constructor
  · intro e; cases a; cases b; rw [ByteArray.toList_eq, ByteArray.toList_eq] at e; simpa using e
  · intro e; rw [e]
theorem stB_eq {c : Circ} {d q : Int} (hq : (d + 359) % 360 = q) : stB c d = !((c q).toList == (c d).toList) := by
  rw [stB, hq, Bool.eq_iff_iff]
  simp only [Bool.not_eq_true', decide_eq_false_iff_not, beq_eq_false_iff_ne, ne_eq, toList_inj]
  exact ⟨fun h e => h e.symm, fun h e => h e.symm⟩
theorem isD_eq (c : Circ) (d : Int) : isD c d = (c d).toList.isEmpty := by
  rw [isD, Bool.eq_iff_iff]; simp [emp_iff]
theorem simpP_no {c : Circ} {dk : Bool} {n : Nat} (h : stB c n = false ∨ (isD c n == dk) = false) : simpP c dk (n + 1) = simpP c dk n := by
  rw [simpP]; rcases h with h | h <;> simp [h]
theorem simpP_yes {c : Circ} {dk : Bool} {n : Nat} (h : stB c n = true) (h2 : (isD c n == dk) = true) : simpP c dk (n + 1) = simpP c dk n ++ [⟨n, endC c n, c n⟩] := by
  rw [simpP, h, h2]; rfl
def allS (c : Circ) (k : Nat) : Bool := allB (fun i => (c (i : Int)).toList == (c 0).toList) k
theorem allS_succ (c : Circ) (k : Nat) : allS c (k + 1) = (allS c k && ((c (k : Int)).toList == (c 0).toList)) := rfl
theorem sts_nil {c : Circ} : sts c 360 = [] ↔ allS c 360 = true := by
  constructor
  · intro h
    refine allB_true fun i hi => ?_
    rw [beq_iff_eq, toList_inj]
    exact run_eq c (a := 0) (b := 360) (by omega) (by omega) (fun d h0 h1 => by
      cases hs : stB c d
      · rfl
      · have := sts_mem c 360 d (by omega) (by omega) hs
        rw [h] at this; cases this) i i (by omega) (by omega) (by omega)
  · intro h
    have ha : ∀ i : Nat, i < 360 → c i = c 0 := fun i hi => by
      have := of_allB h i hi
      rw [beq_iff_eq, toList_inj] at this; exact this
    cases hl : sts c 360 with
    | nil => rfl
    | cons d l =>
      have hd := sts_lt c 360 d (by rw [hl]; simp)
      have hs := st_ne (sts_st c 360 d (by rw [hl]; simp))
      exfalso; apply hs
      have e1 := ha d.toNat (by omega)
      have e2 := ha ((d + 359) % 360).toNat (by omega)
      rw [show ((d.toNat : Nat) : Int) = d by omega] at e1
      rw [show ((((d + 359) % 360).toNat : Nat) : Int) = (d + 359) % 360 by omega] at e2
      rw [e1, e2]
theorem simpF_pos {c : Circ} {dk : Bool} (h : ¬ simpP c dk 360 = []) : simpF c dk = simpP c dk 360 := by rw [simpF, if_neg (fun k => h k.1)]
theorem simpF_other {c : Circ} {dk : Bool} (h : (isD c 0 == dk) = false) : simpF c dk = simpP c dk 360 := by rw [simpF, if_neg (fun k => by rw [k.2.1] at h; simp at h)]
theorem simpF_diff {c : Circ} {dk : Bool} (h : allS c 360 = false) : simpF c dk = simpP c dk 360 := by rw [simpF, if_neg (fun k => by rw [sts_nil.1 k.2.2] at h; cases h)]
theorem simpF_same {c : Circ} {dk : Bool} (h0 : simpP c dk 360 = []) (h1 : (isD c 0 == dk) = true) (h2 : allS c 360 = true) : simpF c dk = [⟨0, 0, c 0⟩] := by rw [simpF, if_pos ⟨h0, by simpa using h1, sts_nil.2 h2⟩]
theorem CircC.cell {w : World} {g : Nat} {c : Circ} (h : CircC w g c) {d : Nat} (hd : d < 360) : w.cell? ⟨g, d, none⟩ = some (.string (c d)) := h.2.2 d hd
theorem CircC.kept {w w' : World} {g : Nat} {c : Circ} (h : CircC w g c) {r : Option Nat} (hg : w.grownBy w' r) (hr : r ≠ some g) : CircC w' g c := by
  obtain ⟨h1, h2, h3⟩ := h
  have hb := hg.block g h1 (fun e => hr e.symm)
  exact ⟨Nat.lt_of_lt_of_le h1 hg.size, fun j => (World.frozen?_of_block (a := ⟨g, j, none⟩) hb).trans (h2 j), fun d hd => (World.cell?_of_block (a := ⟨g, d, none⟩) hb).trans (h3 d hd)⟩
set_option maxHeartbeats 8000000 in
theorem c_l08Simple (g : Nat) (c : Circ) (dk : Bool) (w : World) (hC : CircC w g c) :
    Calls Try.prog 47 #[.slice (some ⟨g, 0, none⟩) 360 360, .bool dk] w fun e w' => ∃ u, e = .returned u ∧ Below w.heap.size w w' ∧ SlO w' w.heap.size 3 encSector u (simpF c dk) := by
  obtain ⟨i0, hi, iz0, iz1, iz2⟩ := info_parts info_Sec
  have hgw := hC.1
  have HC := hid hC
  clear hC
  go_enter Try.func47, Try.ntmps47
  go_wp2
  obtain ⟨W1, hW1⟩ : ∃ z, z = w.alloc (.cells #[] 43) := ⟨_, rfl⟩
  rw [← hW1]
  have hB1 : Below w.heap.size w W1 := by rw [hW1]; (repeat' (first | (with_reducible exact Below.refl _ _) | (with_reducible refine Below.alloc ?_ ?_ _) | (with_reducible refine Below.drew ?_) | (with_reducible refine below_drewN ?_ _) | (with_reducible refine Below.setCell ?_ ?_ _) | (with_reducible refine below_via ‹_› ?_ ?_) | (with_reducible refine below_grow ?_ ?_ _ _) | omega | (simp; done) | (simp; omega)))
  have hA0 := hid (show Acc W1 w.heap.size 43 3 encSector W1 (.slice (some ⟨w.heap.size, 0, none⟩) 0 0) ([] : List SectorD) from Acc.lit (α := SectorD) (W := W1) (w0 := w) (e := 43) (by rw [hW1]; exact Below.refl _ _) 3 encSector)
  have hHB := hid hB1
  have hzW : w.heap.size + 1 ≤ W1.heap.size := by rw [hW1]; simp
  have HC1 := hid (HC.out.below hB1)
  clear hW1 hB1
  go_loopw [5, 6] (fun q i wr => ∃ k : Nat, k ≤ 360 ∧ i = .int .i64 k ∧ Acc W1 w.heap.size 43 3 encSector wr q (simpP c dk k)) (fun _ i _ => 360 - (intOf i).toNat)
  case atStart => exact ⟨0, by omega, rfl, hA0.out⟩
  case round =>
    clear hA0
    obtain ⟨k, hk, rfl, hA⟩ := hrel
    obtain ⟨wo, rfl⟩ : ∃ wo : World, wo = wr := ⟨_, rfl⟩
    have HA := hid hA; clear hA
    have hB : Below w.heap.size w wo := hHB.out.trans (HA.out.keep.mono (by omega))
    have hzr := hB.size
    have hlen := simpP_len c dk k
    have hCo : CircC wo g c := HC1.out.kept HA.out.fr (by intro e; injection e with e; omega)
    by_cases hlt : k < 360
    · have hlI : (k : Int) < 360 := by omega
      obtain ⟨q, hq⟩ : ∃ q : Nat, ((k : Int) + 359) % 360 = q := ⟨(((k : Int) + 359) % 360).toNat, by omega⟩
      have hq3 : q < 360 := by omega
      have hqI : (q : Int) < 360 := by omega
      have c1 := hCo.cell hlt
      have c2 := hCo.cell hq3
      have HS := hid (stB_eq (c := c) hq)
      have HD := hid (isD_eq c (k : Int))
      have HQ := hid hq
      have hw1 : IntKind.i64.wrap ((k : Int) + 359) = (k : Int) + 359 := IntWalk.i64_in _ (by omega)
      have hrm : ((k : Int) + 359) % 360 = (q : Int) := hq
      have hrt : ((k : Int) + 359).tmod 360 = (q : Int) := by rw [Int.tmod_eq_emod_of_nonneg (by omega)]; exact hq
      have HCO := hid hCo
      clear hq hCo
      cases dk
      · cases he : (c k).toList.isEmpty
        · have e1 : ¬ (c k).toList = [] := by intro e; rw [e] at he; simp at he
          have e2 : ((c k).toList == []) = false := by simpa using e1
          cases hb : ((c q).toList == (c k).toList)
          · have HE := hid (simpP_yes (c := c) (dk := false) (n := k) (by rw [HS.out, hb]; rfl) (by rw [HD.out, he]; rfl))
            have HNE := hid (show c q ≠ c k from fun e => by rw [e] at hb; simp at hb)
            clear e1 e2
            go_wp2
            go_quiet (fail)
            obtain ⟨wd, hwd⟩ : ∃ z, z = wo.drewN nq := ⟨_, rfl⟩
            rw [← hwd]
            have hBd : Below wo.heap.size wo wd := by rw [hwd]; (repeat' (first | (with_reducible exact Below.refl _ _) | (with_reducible refine Below.alloc ?_ ?_ _) | (with_reducible refine Below.drew ?_) | (with_reducible refine below_drewN ?_ _) | (with_reducible refine Below.setCell ?_ ?_ _) | (with_reducible refine below_via ‹_› ?_ ?_) | (with_reducible refine below_grow ?_ ?_ _ _) | omega | (simp; done) | (simp; omega)))
            have HAd := hid (HA.out.below hBd)
            have HCd := hid (HCO.out.below hBd)
            have hzd := hBd.size
            clear hwd c1 c2 hBd
            go_wp2
            go_loopw [7] (fun i wr => ∃ t : Nat, k ≤ t ∧ t ≤ k + 359 ∧ i = .int .i64 t ∧ (∀ x : Int, k ≤ x → x < t → c (x % 360) = c k) ∧ Below wd.heap.size wd wr) (fun i _ => k + 359 - (intOf i).toNat)
            case atStart => exact ⟨k, Nat.le_refl _, by omega, rfl, fun x h1 h2 => by omega, Below.refl _ _⟩
            case round =>
              obtain ⟨t, ht0, ht1, rfl, hall, hBr⟩ := hrel
              obtain ⟨r, hr⟩ : ∃ r : Nat, (t : Int) % 360 = r := ⟨((t : Int) % 360).toNat, by omega⟩
              have hr3 : r < 360 := by omega
              have hrI : (r : Int) < 360 := by omega
              have hCr := HCd.out.below hBr
              have c1 := hCr.cell hlt
              have c2 := hCr.cell hr3
              have hrt : (t : Int).tmod 360 = (r : Int) := by rw [Int.tmod_eq_emod_of_nonneg (by omega)]; exact hr
              have HALL := hid hall
              have hzr2 := hBr.size
              have HRQ := hid (fun (h : t = k + 359) => show (r : Int) = q by have := HQ.out; omega)
              have HR := hid hr
              clear hall hCr
              cases hb2 : ((c r).toList == (c k).toList)
              · have HF := hid (show endC c k = r by
                  have hne : c ((t : Int) % 360) ≠ c k := fun e => by rw [HR.out] at e; rw [e] at hb2; simp at hb2
                  rw [endC, endF_at c k 720 k t (by omega) (by omega) HALL.out hne, HR.out])
                go_wp2
                go_quiet (fail)
                have HA3 := hid (HAd.out.below (w' := wr.drewN nq) (by (repeat' (first | (with_reducible exact Below.refl _ _) | (with_reducible refine Below.alloc ?_ ?_ _) | (with_reducible refine Below.drew ?_) | (with_reducible refine below_drewN ?_ _) | (with_reducible refine Below.setCell ?_ ?_ _) | (with_reducible refine below_via ‹_› ?_ ?_) | (with_reducible refine below_grow ?_ ?_ _ _) | omega | (simp; done) | (simp; omega)))))
                have k1 : (wr.drewN nq).cell? ⟨g, k, none⟩ = some (.string (c k)) := c1
                go_wp2_with (at_builtin; refine wpList_push rfl (.tmp 48) (.tmp 57) 25 rfl i0 _ 32 Try.underlying25 hi iz0 iz1 iz2 rfl (by decide) (fun _ => rfl) (⟨k, r, c k⟩ : SectorD) rfl HA3.out (Below.refl _ _) 43 1 (by first | rfl | (rw [World.size_alloc]; rfl)) (one_encSector _) (by unfold maxLen; omega) (by omega) ?_; intro v1 w1 hA1)
                go_roundw
                case rel => exact ⟨k + 1, by omega, by go_num, by rw [HE.out, HF.out]; exact hA1⟩
                case measure => simp [intOf]; omega
              · have hlt2 : t < k + 359 := by
                  by_cases e : t = k + 359
                  · exfalso
                    apply HNE.out
                    have h1 := HRQ.out e
                    rw [← h1]; exact toList_inj.1 (by simpa using hb2)
                  · omega
                have HC2 := hid (show c r = c k from toList_inj.1 (by simpa using hb2))
                go_wp2
                go_quiet (fail)
                go_wp2
                go_roundw
                case rel => exact ⟨t + 1, by omega, by omega, by go_num, fun x h1 h2 => by
                  by_cases e : x = t
                  · rw [e, HR.out]; exact HC2.out
                  · exact HALL.out x h1 (by omega), by (repeat' (first | (with_reducible exact Below.refl _ _) | (with_reducible refine Below.alloc ?_ ?_ _) | (with_reducible refine Below.drew ?_) | (with_reducible refine below_drewN ?_ _) | (with_reducible refine Below.setCell ?_ ?_ _) | (with_reducible refine below_via ‹_› ?_ ?_) | (with_reducible refine below_grow ?_ ?_ _ _) | omega | (simp; done) | (simp; omega)))⟩
                case measure => simp [intOf]; omega
          · have HE := hid (simpP_no (c := c) (dk := false) (n := k) (.inl (by rw [HS.out, hb]; rfl)))
            go_wp2
            go_quiet (fail)
            go_wp2
            go_roundw
            case rel => exact ⟨k + 1, by omega, by go_num, by rw [HE.out]; exact HA.out.below (by (repeat' (first | (with_reducible exact Below.refl _ _) | (with_reducible refine Below.alloc ?_ ?_ _) | (with_reducible refine Below.drew ?_) | (with_reducible refine below_drewN ?_ _) | (with_reducible refine Below.setCell ?_ ?_ _) | (with_reducible refine below_via ‹_› ?_ ?_) | (with_reducible refine below_grow ?_ ?_ _ _) | omega | (simp; done) | (simp; omega))))⟩
            case measure => simp [intOf]; omega
        · have e1 : (c k).toList = [] := by simpa using he
          have e2 : ((c k).toList == []) = true := by simpa using e1
          have HE := hid (simpP_no (c := c) (dk := false) (n := k) (.inr (by rw [HD.out, he]; rfl)))
          go_wp2
          go_quiet (fail)
          go_wp2
          go_roundw
          case rel => exact ⟨k + 1, by omega, by go_num, by rw [HE.out]; exact HA.out.below (by (repeat' (first | (with_reducible exact Below.refl _ _) | (with_reducible refine Below.alloc ?_ ?_ _) | (with_reducible refine Below.drew ?_) | (with_reducible refine below_drewN ?_ _) | (with_reducible refine Below.setCell ?_ ?_ _) | (with_reducible refine below_via ‹_› ?_ ?_) | (with_reducible refine below_grow ?_ ?_ _ _) | omega | (simp; done) | (simp; omega))))⟩
          case measure => simp [intOf]; omega
      · cases he : (c k).toList.isEmpty
        · have e1 : ¬ (c k).toList = [] := by intro e; rw [e] at he; simp at he
          have e2 : ((c k).toList == []) = false := by simpa using e1
          have HE := hid (simpP_no (c := c) (dk := true) (n := k) (.inr (by rw [HD.out, he]; rfl)))
          go_wp2
          go_quiet (fail)
          go_wp2
          go_roundw
          case rel => exact ⟨k + 1, by omega, by go_num, by rw [HE.out]; exact HA.out.below (by (repeat' (first | (with_reducible exact Below.refl _ _) | (with_reducible refine Below.alloc ?_ ?_ _) | (with_reducible refine Below.drew ?_) | (with_reducible refine below_drewN ?_ _) | (with_reducible refine Below.setCell ?_ ?_ _) | (with_reducible refine below_via ‹_› ?_ ?_) | (with_reducible refine below_grow ?_ ?_ _ _) | omega | (simp; done) | (simp; omega))))⟩
          case measure => simp [intOf]; omega
        · have e1 : (c k).toList = [] := by simpa using he
          have e2 : ((c k).toList == []) = true := by simpa using e1
          cases hb : ((c q).toList == (c k).toList)
          · have HE := hid (simpP_yes (c := c) (dk := true) (n := k) (by rw [HS.out, hb]; rfl) (by rw [HD.out, he]; rfl))
            have HNE := hid (show c q ≠ c k from fun e => by rw [e] at hb; simp at hb)
            clear e1 e2
            go_wp2
            go_quiet (fail)
            obtain ⟨wd, hwd⟩ : ∃ z, z = wo.drewN nq := ⟨_, rfl⟩
            rw [← hwd]
            have hBd : Below wo.heap.size wo wd := by rw [hwd]; (repeat' (first | (with_reducible exact Below.refl _ _) | (with_reducible refine Below.alloc ?_ ?_ _) | (with_reducible refine Below.drew ?_) | (with_reducible refine below_drewN ?_ _) | (with_reducible refine Below.setCell ?_ ?_ _) | (with_reducible refine below_via ‹_› ?_ ?_) | (with_reducible refine below_grow ?_ ?_ _ _) | omega | (simp; done) | (simp; omega)))
            have HAd := hid (HA.out.below hBd)
            have HCd := hid (HCO.out.below hBd)
            have hzd := hBd.size
            clear hwd c1 c2 hBd
            go_wp2
            go_loopw [7] (fun i wr => ∃ t : Nat, k ≤ t ∧ t ≤ k + 359 ∧ i = .int .i64 t ∧ (∀ x : Int, k ≤ x → x < t → c (x % 360) = c k) ∧ Below wd.heap.size wd wr) (fun i _ => k + 359 - (intOf i).toNat)
            case atStart => exact ⟨k, Nat.le_refl _, by omega, rfl, fun x h1 h2 => by omega, Below.refl _ _⟩
            case round =>
              obtain ⟨t, ht0, ht1, rfl, hall, hBr⟩ := hrel
              obtain ⟨r, hr⟩ : ∃ r : Nat, (t : Int) % 360 = r := ⟨((t : Int) % 360).toNat, by omega⟩
              have hr3 : r < 360 := by omega
              have hrI : (r : Int) < 360 := by omega
              have hCr := HCd.out.below hBr
              have c1 := hCr.cell hlt
              have c2 := hCr.cell hr3
              have hrt : (t : Int).tmod 360 = (r : Int) := by rw [Int.tmod_eq_emod_of_nonneg (by omega)]; exact hr
              have HALL := hid hall
              have hzr2 := hBr.size
              have HRQ := hid (fun (h : t = k + 359) => show (r : Int) = q by have := HQ.out; omega)
              have HR := hid hr
              clear hall hCr
              cases hb2 : ((c r).toList == (c k).toList)
              · have HF := hid (show endC c k = r by
                  have hne : c ((t : Int) % 360) ≠ c k := fun e => by rw [HR.out] at e; rw [e] at hb2; simp at hb2
                  rw [endC, endF_at c k 720 k t (by omega) (by omega) HALL.out hne, HR.out])
                go_wp2
                go_quiet (fail)
                have HA3 := hid (HAd.out.below (w' := wr.drewN nq) (by (repeat' (first | (with_reducible exact Below.refl _ _) | (with_reducible refine Below.alloc ?_ ?_ _) | (with_reducible refine Below.drew ?_) | (with_reducible refine below_drewN ?_ _) | (with_reducible refine Below.setCell ?_ ?_ _) | (with_reducible refine below_via ‹_› ?_ ?_) | (with_reducible refine below_grow ?_ ?_ _ _) | omega | (simp; done) | (simp; omega)))))
                have k1 : (wr.drewN nq).cell? ⟨g, k, none⟩ = some (.string (c k)) := c1
                go_wp2_with (at_builtin; refine wpList_push rfl (.tmp 48) (.tmp 57) 25 rfl i0 _ 32 Try.underlying25 hi iz0 iz1 iz2 rfl (by decide) (fun _ => rfl) (⟨k, r, c k⟩ : SectorD) rfl HA3.out (Below.refl _ _) 43 1 (by first | rfl | (rw [World.size_alloc]; rfl)) (one_encSector _) (by unfold maxLen; omega) (by omega) ?_; intro v1 w1 hA1)
                go_roundw
                case rel => exact ⟨k + 1, by omega, by go_num, by rw [HE.out, HF.out]; exact hA1⟩
                case measure => simp [intOf]; omega
              · have hlt2 : t < k + 359 := by
                  by_cases e : t = k + 359
                  · exfalso
                    apply HNE.out
                    have h1 := HRQ.out e
                    rw [← h1]; exact toList_inj.1 (by simpa using hb2)
                  · omega
                have HC2 := hid (show c r = c k from toList_inj.1 (by simpa using hb2))
                go_wp2
                go_quiet (fail)
                go_wp2
                go_roundw
                case rel => exact ⟨t + 1, by omega, by omega, by go_num, fun x h1 h2 => by
                  by_cases e : x = t
                  · rw [e, HR.out]; exact HC2.out
                  · exact HALL.out x h1 (by omega), by (repeat' (first | (with_reducible exact Below.refl _ _) | (with_reducible refine Below.alloc ?_ ?_ _) | (with_reducible refine Below.drew ?_) | (with_reducible refine below_drewN ?_ _) | (with_reducible refine Below.setCell ?_ ?_ _) | (with_reducible refine below_via ‹_› ?_ ?_) | (with_reducible refine below_grow ?_ ?_ _ _) | omega | (simp; done) | (simp; omega)))⟩
                case measure => simp [intOf]; omega
          · have HE := hid (simpP_no (c := c) (dk := true) (n := k) (.inl (by rw [HS.out, hb]; rfl)))
            clear e1
            go_wp2
            go_quiet (fail)
            go_wp2
            go_roundw
            case rel => exact ⟨k + 1, by omega, by go_num, by rw [HE.out]; exact HA.out.below (by (repeat' (first | (with_reducible exact Below.refl _ _) | (with_reducible refine Below.alloc ?_ ?_ _) | (with_reducible refine Below.drew ?_) | (with_reducible refine below_drewN ?_ _) | (with_reducible refine Below.setCell ?_ ?_ _) | (with_reducible refine below_via ‹_› ?_ ?_) | (with_reducible refine below_grow ?_ ?_ _ _) | omega | (simp; done) | (simp; omega))))⟩
            case measure => simp [intOf]; omega
    · have e : k = 360 := by omega
      subst e
      clear hk hlt
      have c0 := hCo.cell (d := 0) (by omega)
      have HD0 := hid (isD_eq c 0)
      by_cases hn : simpP c dk 360 = []
      · have hA2 : Acc W1 w.heap.size 43 3 encSector wo u5 ([] : List SectorD) := by rw [← hn]; exact HA.out
        obtain ⟨av, cv, hu5⟩ := (hA2.slo fun _ => rfl).1.form
        simp only [List.length_nil] at hu5
        subst hu5
        have HA2 := hid hA2
        have HN := hid hn
        have HCo := hid hCo
        clear hn hlen HA hA2 hCo
        cases hm : ((c 0).toList.isEmpty == dk)
        · have HF := hid (show simpF c dk = [] by rw [simpF_other (by rw [HD0.out, hm]), HN.out])
          cases dk
          all_goals
            cases he : (c 0).toList.isEmpty
            all_goals (rw [he] at hm)
            all_goals try (exact absurd hm (by decide))
          · have e1 : (c 0).toList = [] := by simpa using he
            go_wp2
            go_ret
            have hd := HA2.out.done (fun _ => rfl) hHB.out (Nat.le_refl _)
            exact ⟨_, rfl, hd.1, by rw [HF.out]; exact hd.2⟩
          · have e1 : ¬ (c 0).toList = [] := by intro e; rw [e] at he; simp at he
            go_wp2
            go_ret
            have hd := HA2.out.done (fun _ => rfl) hHB.out (Nat.le_refl _)
            exact ⟨_, rfl, hd.1, by rw [HF.out]; exact hd.2⟩
        · have HM := hid hm
          cases dk
          all_goals
            cases he : (c 0).toList.isEmpty
            all_goals (rw [he] at hm)
            all_goals try (exact absurd hm (by decide))
          all_goals
            clear hm
          · have e1 : ¬ (c 0).toList = [] := by intro e; rw [e] at he; simp at he
            go_wp2
            clear e1 he
            go_loopw [8, 9] (fun b i wr => ∃ m : Nat, m ≤ 360 ∧ i = .int .i64 m ∧ b = .bool (allS c m) ∧ Below wo.heap.size wo wr) (fun _ i _ => 360 - (intOf i).toNat)
            case atStart => exact ⟨0, by omega, rfl, rfl, Below.refl _ _⟩
            case round =>
              obtain ⟨m, hm, rfl, rfl, hBr⟩ := hrel
              have hCr := HCo.out.below hBr
              have hzr2 := hBr.size
              by_cases hmt : m < 360
              · have hmI : (m : Int) < 360 := by omega
                have k0 := hCr.cell (d := 0) (by omega)
                have k1 := hCr.cell hmt
                have HSU := hid (allS_succ c m)
                clear hCr c0
                cases hs : allS c m
                · have HSQ := hid hs
                  go_wp2
                  go_quiet (fail)
                  go_wp2
                  go_roundw
                  case rel => exact ⟨m + 1, by omega, by go_num, by rw [HSU.out, HSQ.out]; rfl, by (repeat' (first | (with_reducible exact Below.refl _ _) | (with_reducible refine Below.alloc ?_ ?_ _) | (with_reducible refine Below.drew ?_) | (with_reducible refine below_drewN ?_ _) | (with_reducible refine Below.setCell ?_ ?_ _) | (with_reducible refine below_via ‹_› ?_ ?_) | (with_reducible refine below_grow ?_ ?_ _ _) | omega | (simp; done) | (simp; omega)))⟩
                  case measure => simp [intOf]; omega
                · have HSQ := hid hs
                  cases hb : ((c m).toList == (c 0).toList)
                  all_goals
                    have HSB := hid hb
                    go_wp2
                    go_quiet (fail)
                    go_wp2
                    go_roundw
                    case rel => exact ⟨m + 1, by omega, by go_num, by rw [HSU.out, HSQ.out, HSB.out]; rfl, by (repeat' (first | (with_reducible exact Below.refl _ _) | (with_reducible refine Below.alloc ?_ ?_ _) | (with_reducible refine Below.drew ?_) | (with_reducible refine below_drewN ?_ _) | (with_reducible refine Below.setCell ?_ ?_ _) | (with_reducible refine below_via ‹_› ?_ ?_) | (with_reducible refine below_grow ?_ ?_ _ _) | omega | (simp; done) | (simp; omega)))⟩
                    case measure => simp [intOf]; omega
              · have e : m = 360 := by omega
                subst e
                clear hCr
                cases hs : allS c 360
                · have HF := hid (show simpF c false = [] by rw [simpF_diff hs, HN.out])
                  go_wp2
                  go_ret
                  have hd := (HA2.out.below hBr).done (fun _ => rfl) hHB.out (Nat.le_refl _)
                  exact ⟨_, rfl, hd.1, by rw [HF.out]; exact hd.2⟩
                · have HF := hid (simpF_same (c := c) HN.out (by rw [HD0.out, HM.out]) hs)
                  have HA3 := hid (HA2.out.below hBr)
                  have k0 := HCo.out.below hBr |>.cell (d := 0) (by omega)
                  clear c0
                  go_wp2_with (at_builtin; refine wpList_push rfl (.tmp 86) (.tmp 91) 25 rfl i0 _ 32 Try.underlying25 hi iz0 iz1 iz2 rfl (by decide) (fun _ => rfl) (⟨0, 0, c 0⟩ : SectorD) rfl HA3.out (Below.refl _ _) 43 1 (by first | rfl | (rw [World.size_alloc]; rfl)) (one_encSector _) (by unfold maxLen; simp) (by simp) ?_; intro v1 w1 hA1)
                  go_ret
                  have hd := hA1.done (fun _ => rfl) hHB.out (Nat.le_refl _)
                  exact ⟨_, rfl, hd.1, by rw [HF.out]; exact hd.2⟩
          · have e1 : (c 0).toList = [] := by simpa using he
            go_wp2
            clear e1 he
            go_loopw [8, 9] (fun b i wr => ∃ m : Nat, m ≤ 360 ∧ i = .int .i64 m ∧ b = .bool (allS c m) ∧ Below wo.heap.size wo wr) (fun _ i _ => 360 - (intOf i).toNat)
            case atStart => exact ⟨0, by omega, rfl, rfl, Below.refl _ _⟩
            case round =>
              obtain ⟨m, hm, rfl, rfl, hBr⟩ := hrel
              have hCr := HCo.out.below hBr
              have hzr2 := hBr.size
              by_cases hmt : m < 360
              · have hmI : (m : Int) < 360 := by omega
                have k0 := hCr.cell (d := 0) (by omega)
                have k1 := hCr.cell hmt
                have HSU := hid (allS_succ c m)
                clear hCr c0
                cases hs : allS c m
                · have HSQ := hid hs
                  go_wp2
                  go_quiet (fail)
                  go_wp2
                  go_roundw
                  case rel => exact ⟨m + 1, by omega, by go_num, by rw [HSU.out, HSQ.out]; rfl, by (repeat' (first | (with_reducible exact Below.refl _ _) | (with_reducible refine Below.alloc ?_ ?_ _) | (with_reducible refine Below.drew ?_) | (with_reducible refine below_drewN ?_ _) | (with_reducible refine Below.setCell ?_ ?_ _) | (with_reducible refine below_via ‹_› ?_ ?_) | (with_reducible refine below_grow ?_ ?_ _ _) | omega | (simp; done) | (simp; omega)))⟩
                  case measure => simp [intOf]; omega
                · have HSQ := hid hs
                  cases hb : ((c m).toList == (c 0).toList)
                  all_goals
                    have HSB := hid hb
                    go_wp2
                    go_quiet (fail)
                    go_wp2
                    go_roundw
                    case rel => exact ⟨m + 1, by omega, by go_num, by rw [HSU.out, HSQ.out, HSB.out]; rfl, by (repeat' (first | (with_reducible exact Below.refl _ _) | (with_reducible refine Below.alloc ?_ ?_ _) | (with_reducible refine Below.drew ?_) | (with_reducible refine below_drewN ?_ _) | (with_reducible refine Below.setCell ?_ ?_ _) | (with_reducible refine below_via ‹_› ?_ ?_) | (with_reducible refine below_grow ?_ ?_ _ _) | omega | (simp; done) | (simp; omega)))⟩
                    case measure => simp [intOf]; omega
              · have e : m = 360 := by omega
                subst e
                clear hCr
                cases hs : allS c 360
                · have HF := hid (show simpF c true = [] by rw [simpF_diff hs, HN.out])
                  go_wp2
                  go_ret
                  have hd := (HA2.out.below hBr).done (fun _ => rfl) hHB.out (Nat.le_refl _)
                  exact ⟨_, rfl, hd.1, by rw [HF.out]; exact hd.2⟩
                · have HF := hid (simpF_same (c := c) HN.out (by rw [HD0.out, HM.out]) hs)
                  have HA3 := hid (HA2.out.below hBr)
                  have k0 := HCo.out.below hBr |>.cell (d := 0) (by omega)
                  clear c0
                  go_wp2_with (at_builtin; refine wpList_push rfl (.tmp 86) (.tmp 91) 25 rfl i0 _ 32 Try.underlying25 hi iz0 iz1 iz2 rfl (by decide) (fun _ => rfl) (⟨0, 0, c 0⟩ : SectorD) rfl HA3.out (Below.refl _ _) 43 1 (by first | rfl | (rw [World.size_alloc]; rfl)) (one_encSector _) (by unfold maxLen; simp) (by simp) ?_; intro v1 w1 hA1)
                  go_ret
                  have hd := hA1.done (fun _ => rfl) hHB.out (Nat.le_refl _)
                  exact ⟨_, rfl, hd.1, by rw [HF.out]; exact hd.2⟩
      · have HF := hid (simpF_pos hn)
        have hln : 0 < (simpP c dk 360).length := List.length_pos_iff.2 hn
        obtain ⟨av, cv, hu5⟩ := (HA.out.slo fun _ => rfl).1.form
        subst hu5
        have hz1 : (((simpP c dk 360).length : Int) == 0) = false := by rw [beq_eq_false_iff_ne]; omega
        clear hn hCo
        go_wp2
        go_ret
        have hd := HA.out.done (fun _ => rfl) hHB.out (Nat.le_refl _)
        exact ⟨_, rfl, hd.1, by rw [HF.out]; exact hd.2⟩
end Go.Proofs.Ytljipgjgjobaaaa
