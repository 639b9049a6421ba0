/- Equality of lists of aids and of editions, by the reference. Printed by wip/mkaideq.py. -/
import Derived.Test.YtjibilibdjfdcaaAidD
import Derived.Test.YtjibilibdjfdcaaAidS0
import Derived.Test.YtjibilibdjfdcaaAidS1
import Derived.Test.YtjibilibdjfdcaaAidS2
namespace Go.Proofs.Ytjibilibdjfdcaa
open Go.RowKit Go.Sort
set_option linter.unusedVariables false
set_option maxRecDepth 100000

theorem c_l12Same (bk off bk' off' : Nat) (d e : AidD) (w : World) (hd : inAid w 0 d) (he : inAid w 0 e) (hx : ∀ j, j < 16 → w.cell? ⟨bk, off + j, none⟩ = some ((encAid d).getD j undef)) (hy : ∀ j, j < 16 → w.cell? ⟨bk', off' + j, none⟩ = some ((encAid e).getD j undef)) :
    Calls Try.prog 32 #[.pointer (some ⟨bk, off, none⟩), .pointer (some ⟨bk', off', none⟩)] w fun e' w' => e' = .returned (.bool (sameAidB d e)) ∧ Below w.heap.size w w' := by
  cases q1 : (d.fNumber == e.fNumber)
  · exact c_l12Same0 bk off bk' off' d e w hd he hx hy q1
  cases q2 : (d.fName.toList == e.fName.toList)
  · exact c_l12Same1 bk off bk' off' d e w hd he hx hy q1 q2
  cases q3 : (d.fAtX == e.fAtX)
  · exact c_l12Same2 bk off bk' off' d e w hd he hx hy q1 q2 q3
  cases q4 : (d.fAtY == e.fAtY)
  · exact c_l12Same3 bk off bk' off' d e w hd he hx hy q1 q2 q3 q4
  cases q5 : (d.fHeight == e.fHeight)
  · exact c_l12Same4 bk off bk' off' d e w hd he hx hy q1 q2 q3 q4 q5
  cases q6 : (d.fMarkKind == e.fMarkKind)
  · exact c_l12Same5 bk off bk' off' d e w hd he hx hy q1 q2 q3 q4 q5 q6
  cases q7 : (d.fMarkColors.toList == e.fMarkColors.toList)
  · exact c_l12Same6 bk off bk' off' d e w hd he hx hy q1 q2 q3 q4 q5 q6 q7
  cases q8 : (d.fMarkShape.toList == e.fMarkShape.toList)
  · exact c_l12Same7 bk off bk' off' d e w hd he hx hy q1 q2 q3 q4 q5 q6 q7 q8
  cases q9 : (d.fMarkTopmark.toList == e.fMarkTopmark.toList)
  · exact c_l12Same8 bk off bk' off' d e w hd he hx hy q1 q2 q3 q4 q5 q6 q7 q8 q9
  cases q10 : sameChB d.fLightKind d.fLightGroup d.fLightLetter d.fLightColors d.fLightPeriod e.fLightKind e.fLightGroup e.fLightLetter e.fLightColors e.fLightPeriod
  · exact c_l12Same9 bk off bk' off' d e w hd he hx hy q1 q2 q3 q4 q5 q6 q7 q8 q9 q10
  cases q11 : sameG secE d.fSectors e.fSectors
  · exact c_l12Same10 bk off bk' off' d e w hd he hx hy q1 q2 q3 q4 q5 q6 q7 q8 q9 q10 q11
  cases q12 : (d.fIntensity == e.fIntensity)
  · exact c_l12Same11 bk off bk' off' d e w hd he hx hy q1 q2 q3 q4 q5 q6 q7 q8 q9 q10 q11 q12
  exact c_l12Same12 bk off bk' off' d e w hd he hx hy q1 q2 q3 q4 q5 q6 q7 q8 q9 q10 q11 q12
set_option maxHeartbeats 4000000 in
theorem c_l23SameAids (v v' : Value) (xs ys : List AidD) (w : World) (h : SlA w 0 16 encAid v xs) (h' : SlA w 0 16 encAid v' ys) (hin : ∀ x ∈ xs, inAid w 0 x) (hin' : ∀ x ∈ ys, inAid w 0 x) :
    Calls Try.prog 20 #[v, v'] w fun e w' => e = .returned (.bool (sameG aidP xs ys)) ∧ Below w.heap.size w w' := by
  obtain ⟨ad, cap, b, off, rfl, hm, had, hx⟩ := h.uni
  obtain ⟨ad', cap', b', off', rfl, hm', had', hx'⟩ := h'.uni
  by_cases hl : xs.length = ys.length
  · have hlB : ((xs.length : Int) != (ys.length : Int)) = false := by simp [hl]
    have HL := hid hl
    clear hl
    go_enter Try.func20, Try.ntmps20
    go_wp2
    go_loopw [5] (fun i wr => ∃ k : Nat, k ≤ xs.length ∧ i = .int .i64 k ∧ (∀ j, (h1 : j < xs.length) → (h2 : j < ys.length) → j < k → aidP xs[j] = aidP ys[j]) ∧ Below w.heap.size w wr) (fun i _ => xs.length - (intOf i).toNat)
    case atStart => exact ⟨0, Nat.zero_le _, rfl, fun j _ _ hj => by omega, by (repeat' (first | (with_reducible exact Below.refl _ _) | (with_reducible refine Below.alloc ?_ ?_ _) | (with_reducible refine Below.drew ?_) | (with_reducible refine below_drewN ?_ _) | (with_reducible refine Below.setCell ?_ ?_ _) | (with_reducible refine below_via ‹_› ?_ ?_) | (with_reducible refine below_grow ?_ ?_ _ _) | omega | (simp; done) | (simp; omega)))⟩
    case round =>
      obtain ⟨k, hk, rfl, ht, hB⟩ := hrel
      have HT := hid ht; clear ht
      have hzr := hB.size
      by_cases hlt : k < xs.length
      · have hlI : (k : Int) < xs.length := by omega
        have hlt' : k < ys.length := by have := HL.out; omega
        have hlI' : (k : Int) < ys.length := by omega
        obtain ⟨rfl, hbb, -, hcc, hmc⟩ := had (by omega)
        obtain ⟨rfl, hbb', -, hcc', hmc'⟩ := had' (by omega)
        have hd := (hin xs[k] (List.getElem_mem hlt)).below hB (Nat.le_refl _)
        have he := (hin' ys[k] (List.getElem_mem hlt')).below hB (Nat.le_refl _)
        have gx : ∀ j, j < 16 → wr.cell? ⟨b, off + k * 16 + j, none⟩ = some ((encAid xs[k]).getD j undef) := fun j hj => (hB.cell (p := ⟨b, off + k * 16 + j, none⟩) hbb).trans (hx k hlt j hj)
        have gy : ∀ j, j < 16 → wr.cell? ⟨b', off' + k * 16 + j, none⟩ = some ((encAid ys[k]).getD j undef) := fun j hj => (hB.cell (p := ⟨b', off' + k * 16 + j, none⟩) hbb').trans (hx' k hlt' j hj)
        have HI := hid (sameAidB_iff xs[k] ys[k])
        obtain ⟨X, hX⟩ : ∃ X, X = xs[k] := ⟨_, rfl⟩
        obtain ⟨Y, hY⟩ : ∃ Y, Y = ys[k] := ⟨_, rfl⟩
        rw [← hX] at hd gx HI
        rw [← hY] at he gy HI
        have HX := hid (And.intro hX hY)
        clear hx hx' hX hY hin hin'
        have gx' : ∀ (q : Nat) (os : Array Obj), ∀ j, j < 16 → (grow (redrawn wr q) os).cell? ⟨b, off + k * 16 + j, none⟩ = some ((encAid X).getD j undef) := fun q os j hj => cellr (gx j hj) q os
        have gy' : ∀ (q : Nat) (os : Array Obj), ∀ j, j < 16 → (grow (redrawn wr q) os).cell? ⟨b', off' + k * 16 + j, none⟩ = some ((encAid Y).getD j undef) := fun q os j hj => cellr (gy j hj) q os
        have hd' : ∀ (q : Nat) (os : Array Obj), inAid (grow (redrawn wr q) os) 0 X := fun q os => hd.below (below_regrown wr q os) (Nat.le_refl _)
        have he' : ∀ (q : Nat) (os : Array Obj), inAid (grow (redrawn wr q) os) 0 Y := fun q os => he.below (below_regrown wr q os) (Nat.le_refl _)
        have cl := fun (q : Nat) (os : Array Obj) => c_l12Same b (off + k * 16) b' (off' + k * 16) X Y (grow (redrawn wr q) os) (hd' q os) (he' q os) (gx' q os) (gy' q os)
        clear gx gy gx' gy' hd he hd' he'
        cases hq1 : sameAidB X Y
        · go_wp2
          (refine wp_region_quiet_below (by kernel_rfl) (by kernel_rfl) ?_; (repeat (first | go_big_quiet_step ((first | (go_at_call 32; exact regrown_bool (cl _ _) (by assumption)))) | quiet_step ((first | (go_at_call 32; exact regrown_bool (cl _ _) (by assumption)))))); refine wpQuiet_nil ?_; intro w1 hw'; have hb := below_of_regrown hw'; clear hw'; obtain ⟨hc, hf⟩ := bcell hb; have hz := hb.size; (try simp at hz); (try have hz0 : ∀ b, b < w.heap.size → b < w1.heap.size := fun b h => by omega); (try have hz1 : w.heap.size < w1.heap.size := by omega); (try have hz2 : w.heap.size + 1 < w1.heap.size := by omega); (try have hz3 : w.heap.size + 2 < w1.heap.size := by omega))
          go_wp2
          first
            | (go_ret; exact ⟨ret_bool (sameG_false_at aidP xs ys k hlt hlt' (by rw [← HX.out.1, ← HX.out.2]; intro e; rw [HI.out.2 e] at hq1; cases hq1)).symm, by (repeat' (first | (with_reducible exact Below.refl _ _) | (with_reducible refine Below.alloc ?_ ?_ _) | (with_reducible refine Below.drew ?_) | (with_reducible refine below_drewN ?_ _) | (with_reducible refine Below.setCell ?_ ?_ _) | (with_reducible refine below_via ‹_› ?_ ?_) | (with_reducible refine below_grow ?_ ?_ _ _) | omega | (simp; done) | (simp; omega)))⟩)
            | (go_roundw
               case rel => exact ⟨k + 1, by omega, by go_num, all_ltG (P := fun a b => aidP a = aidP b) HT.out (fun _ _ => by rw [← HX.out.1, ← HX.out.2]; exact HI.out.1 hq1), by (repeat' (first | (with_reducible exact Below.refl _ _) | (with_reducible refine Below.alloc ?_ ?_ _) | (with_reducible refine Below.drew ?_) | (with_reducible refine below_drewN ?_ _) | (with_reducible refine Below.setCell ?_ ?_ _) | (with_reducible refine below_via ‹_› ?_ ?_) | (with_reducible refine below_grow ?_ ?_ _ _) | omega | (simp; done) | (simp; omega)))⟩
               case measure => simp [intOf]; omega)
        go_wp2
        (refine wp_region_quiet_below (by kernel_rfl) (by kernel_rfl) ?_; (repeat (first | go_big_quiet_step ((first | (go_at_call 32; exact regrown_bool (cl _ _) (by assumption)))) | quiet_step ((first | (go_at_call 32; exact regrown_bool (cl _ _) (by assumption)))))); refine wpQuiet_nil ?_; intro w1 hw'; have hb := below_of_regrown hw'; clear hw'; obtain ⟨hc, hf⟩ := bcell hb; have hz := hb.size; (try simp at hz); (try have hz0 : ∀ b, b < w.heap.size → b < w1.heap.size := fun b h => by omega); (try have hz1 : w.heap.size < w1.heap.size := by omega); (try have hz2 : w.heap.size + 1 < w1.heap.size := by omega); (try have hz3 : w.heap.size + 2 < w1.heap.size := by omega))
        go_wp2
        first
          | (go_ret; exact ⟨ret_bool (sameG_false_at aidP xs ys k hlt hlt' (by rw [← HX.out.1, ← HX.out.2]; intro e; rw [HI.out.2 e] at hq1; cases hq1)).symm, by (repeat' (first | (with_reducible exact Below.refl _ _) | (with_reducible refine Below.alloc ?_ ?_ _) | (with_reducible refine Below.drew ?_) | (with_reducible refine below_drewN ?_ _) | (with_reducible refine Below.setCell ?_ ?_ _) | (with_reducible refine below_via ‹_› ?_ ?_) | (with_reducible refine below_grow ?_ ?_ _ _) | omega | (simp; done) | (simp; omega)))⟩)
          | (go_roundw
             case rel => exact ⟨k + 1, by omega, by go_num, all_ltG (P := fun a b => aidP a = aidP b) HT.out (fun _ _ => by rw [← HX.out.1, ← HX.out.2]; exact HI.out.1 hq1), by (repeat' (first | (with_reducible exact Below.refl _ _) | (with_reducible refine Below.alloc ?_ ?_ _) | (with_reducible refine Below.drew ?_) | (with_reducible refine below_drewN ?_ _) | (with_reducible refine Below.setCell ?_ ?_ _) | (with_reducible refine below_via ‹_› ?_ ?_) | (with_reducible refine below_grow ?_ ?_ _ _) | omega | (simp; done) | (simp; omega)))⟩
             case measure => simp [intOf]; omega)
      · have HR := hid (sameG_true aidP xs ys HL.out fun j h1 h2 => HT.out j h1 h2 (by omega))
        clear hx hx' hin hin'
        go_wp2
        go_ret
        exact ⟨ret_bool HR.out.symm, by (repeat' (first | (with_reducible exact Below.refl _ _) | (with_reducible refine Below.alloc ?_ ?_ _) | (with_reducible refine Below.drew ?_) | (with_reducible refine below_drewN ?_ _) | (with_reducible refine Below.setCell ?_ ?_ _) | (with_reducible refine below_via ‹_› ?_ ?_) | (with_reducible refine below_grow ?_ ?_ _ _) | omega | (simp; done) | (simp; omega)))⟩
  · have hlB : ((xs.length : Int) != (ys.length : Int)) = true := by simp; omega
    have HL := hid (sameG_false_len aidP xs ys hl)
    clear hl
    go_enter Try.func20, Try.ntmps20
    go_wp2
    go_ret
    exact ⟨ret_bool HL.out.symm, by (repeat' (first | (with_reducible exact Below.refl _ _) | (with_reducible refine Below.alloc ?_ ?_ _) | (with_reducible refine Below.drew ?_) | (with_reducible refine below_drewN ?_ _) | (with_reducible refine Below.setCell ?_ ?_ _) | (with_reducible refine below_via ‹_› ?_ ?_) | (with_reducible refine below_grow ?_ ?_ _ _) | omega | (simp; done) | (simp; omega)))⟩
end Go.Proofs.Ytjibilibdjfdcaa
