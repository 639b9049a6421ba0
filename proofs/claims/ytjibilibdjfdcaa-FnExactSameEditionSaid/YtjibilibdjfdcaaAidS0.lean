/- The reference's equality of two aids, case by case (0). Printed by wip/mkaideq.py. -/
import Derived.Test.YtjibilibdjfdcaaAidE0
namespace Go.Proofs.Ytjibilibdjfdcaa
open Go.RowKit Go.Sort
set_option linter.unusedVariables false
set_option maxRecDepth 100000

set_option maxHeartbeats 16000000 in
theorem c_l12Same0 (bk off bk' off' : Nat) (d e : AidD) (w : World) (hd : inAid w 0 d) (he : inAid w 0 e) (hx : ∀ j, j < 16 → w.cell? ⟨bk, off + j, none⟩ = some ((encAid d).getD j undef)) (hy : ∀ j, j < 16 → w.cell? ⟨bk', off' + j, none⟩ = some ((encAid e).getD j undef))  (q1 : (d.fNumber == e.fNumber) = false) :
    Calls Try.prog 32 #[.pointer (some ⟨bk, off, none⟩), .pointer (some ⟨bk', off', none⟩)] w fun e' w' => e' = .returned (.bool (sameAidB d e)) ∧ Below w.heap.size w w' := by
  have HR := hid (show sameAidB d e = false by simp [sameAidB, *])
  have x0 := hx 0 (by omega)
  have y0 := hy 0 (by omega)
  simp only [encAid, List.getD_cons_zero, List.getD_cons_succ, Nat.add_zero] at x0 y0
  obtain ⟨hd1, hd2⟩ := hd
  obtain ⟨he1, he2⟩ := he
  have rx0 := cellr x0
  have ry0 := cellr y0
  clear hx hy hd1 hd2 he1 he2 x0 y0
  go_enter Try.func32, Try.ntmps32
  go_wp2
  (refine wp_region_quiet_below (by kernel_rfl) (by kernel_rfl) ?_; (try simp only [List.append_eq, List.cons_append, List.nil_append]); (repeat (go_big_quiet_step ((fail)))); refine wpQuiet_nil ?_; intro w1 hw'; have hb := below_of_regrown hw'; clear hw'; obtain ⟨hc, hf⟩ := bcell hb; have hz := hb.size; (try simp at hz); (try have hz0 : ∀ b, b < w.heap.size → b < w1.heap.size := fun b h => by omega); (try have hz1 : w.heap.size < w1.heap.size := by omega); (try have hz2 : w.heap.size + 1 < w1.heap.size := by omega); (try have hz3 : w.heap.size + 2 < w1.heap.size := by omega))
  go_wp2
  go_ret
  exact ⟨ret_bool HR.out.symm, by (repeat' (first | (with_reducible exact Below.refl _ _) | (with_reducible refine Below.alloc ?_ ?_ _) | (with_reducible refine Below.drew ?_) | (with_reducible refine below_drewN ?_ _) | (with_reducible refine Below.setCell ?_ ?_ _) | (with_reducible refine below_via ‹_› ?_ ?_) | (with_reducible refine below_grow ?_ ?_ _ _) | omega | (simp; done) | (simp; omega)))⟩
set_option maxHeartbeats 16000000 in
theorem c_l12Same1 (bk off bk' off' : Nat) (d e : AidD) (w : World) (hd : inAid w 0 d) (he : inAid w 0 e) (hx : ∀ j, j < 16 → w.cell? ⟨bk, off + j, none⟩ = some ((encAid d).getD j undef)) (hy : ∀ j, j < 16 → w.cell? ⟨bk', off' + j, none⟩ = some ((encAid e).getD j undef)) (q1 : (d.fNumber == e.fNumber) = true) (q2 : (d.fName.toList == e.fName.toList) = false) :
    Calls Try.prog 32 #[.pointer (some ⟨bk, off, none⟩), .pointer (some ⟨bk', off', none⟩)] w fun e' w' => e' = .returned (.bool (sameAidB d e)) ∧ Below w.heap.size w w' := by
  have HR := hid (show sameAidB d e = false by simp [sameAidB, *])
  have x0 := hx 0 (by omega)
  have y0 := hy 0 (by omega)
  have x1 := hx 1 (by omega)
  have y1 := hy 1 (by omega)
  simp only [encAid, List.getD_cons_zero, List.getD_cons_succ, Nat.add_zero] at x0 y0 x1 y1
  obtain ⟨hd1, hd2⟩ := hd
  obtain ⟨he1, he2⟩ := he
  have rx0 := cellr x0
  have ry0 := cellr y0
  have rx1 := cellr x1
  have ry1 := cellr y1
  clear hx hy hd1 hd2 he1 he2 x0 y0 x1 y1
  go_enter Try.func32, Try.ntmps32
  go_wp2
  (refine wp_region_quiet_below (by kernel_rfl) (by kernel_rfl) ?_; (try simp only [List.append_eq, List.cons_append, List.nil_append]); (repeat (go_big_quiet_step ((fail)))); refine wpQuiet_nil ?_; intro w1 hw'; have hb := below_of_regrown hw'; clear hw'; obtain ⟨hc, hf⟩ := bcell hb; have hz := hb.size; (try simp at hz); (try have hz0 : ∀ b, b < w.heap.size → b < w1.heap.size := fun b h => by omega); (try have hz1 : w.heap.size < w1.heap.size := by omega); (try have hz2 : w.heap.size + 1 < w1.heap.size := by omega); (try have hz3 : w.heap.size + 2 < w1.heap.size := by omega))
  go_wp2
  go_ret
  exact ⟨ret_bool HR.out.symm, by (repeat' (first | (with_reducible exact Below.refl _ _) | (with_reducible refine Below.alloc ?_ ?_ _) | (with_reducible refine Below.drew ?_) | (with_reducible refine below_drewN ?_ _) | (with_reducible refine Below.setCell ?_ ?_ _) | (with_reducible refine below_via ‹_› ?_ ?_) | (with_reducible refine below_grow ?_ ?_ _ _) | omega | (simp; done) | (simp; omega)))⟩
set_option maxHeartbeats 16000000 in
theorem c_l12Same2 (bk off bk' off' : Nat) (d e : AidD) (w : World) (hd : inAid w 0 d) (he : inAid w 0 e) (hx : ∀ j, j < 16 → w.cell? ⟨bk, off + j, none⟩ = some ((encAid d).getD j undef)) (hy : ∀ j, j < 16 → w.cell? ⟨bk', off' + j, none⟩ = some ((encAid e).getD j undef)) (q1 : (d.fNumber == e.fNumber) = true)  (q2 : (d.fName.toList == e.fName.toList) = true) (q3 : (d.fAtX == e.fAtX) = false) :
    Calls Try.prog 32 #[.pointer (some ⟨bk, off, none⟩), .pointer (some ⟨bk', off', none⟩)] w fun e' w' => e' = .returned (.bool (sameAidB d e)) ∧ Below w.heap.size w w' := by
  have HR := hid (show sameAidB d e = false by simp [sameAidB, *])
  have x0 := hx 0 (by omega)
  have y0 := hy 0 (by omega)
  have x1 := hx 1 (by omega)
  have y1 := hy 1 (by omega)
  have x2 := hx 2 (by omega)
  have y2 := hy 2 (by omega)
  have x3 := hx 3 (by omega)
  have y3 := hy 3 (by omega)
  simp only [encAid, List.getD_cons_zero, List.getD_cons_succ, Nat.add_zero] at x0 y0 x1 y1 x2 y2 x3 y3
  obtain ⟨hd1, hd2⟩ := hd
  obtain ⟨he1, he2⟩ := he
  have rx0 := cellr x0
  have ry0 := cellr y0
  have rx1 := cellr x1
  have ry1 := cellr y1
  have rx2 := cellr x2
  have ry2 := cellr y2
  have rx3 := cellr x3
  have ry3 := cellr y3
  clear hx hy hd1 hd2 he1 he2 x0 y0 x1 y1 x2 y2 x3 y3
  go_enter Try.func32, Try.ntmps32
  go_wp2
  (refine wp_region_quiet_below (by kernel_rfl) (by kernel_rfl) ?_; (try simp only [List.append_eq, List.cons_append, List.nil_append]); (repeat (go_big_quiet_step ((fail)))); refine wpQuiet_nil ?_; intro w1 hw'; have hb := below_of_regrown hw'; clear hw'; obtain ⟨hc, hf⟩ := bcell hb; have hz := hb.size; (try simp at hz); (try have hz0 : ∀ b, b < w.heap.size → b < w1.heap.size := fun b h => by omega); (try have hz1 : w.heap.size < w1.heap.size := by omega); (try have hz2 : w.heap.size + 1 < w1.heap.size := by omega); (try have hz3 : w.heap.size + 2 < w1.heap.size := by omega))
  go_wp2
  go_ret
  exact ⟨ret_bool HR.out.symm, by (repeat' (first | (with_reducible exact Below.refl _ _) | (with_reducible refine Below.alloc ?_ ?_ _) | (with_reducible refine Below.drew ?_) | (with_reducible refine below_drewN ?_ _) | (with_reducible refine Below.setCell ?_ ?_ _) | (with_reducible refine below_via ‹_› ?_ ?_) | (with_reducible refine below_grow ?_ ?_ _ _) | omega | (simp; done) | (simp; omega)))⟩
set_option maxHeartbeats 16000000 in
theorem c_l12Same3 (bk off bk' off' : Nat) (d e : AidD) (w : World) (hd : inAid w 0 d) (he : inAid w 0 e) (hx : ∀ j, j < 16 → w.cell? ⟨bk, off + j, none⟩ = some ((encAid d).getD j undef)) (hy : ∀ j, j < 16 → w.cell? ⟨bk', off' + j, none⟩ = some ((encAid e).getD j undef)) (q1 : (d.fNumber == e.fNumber) = true)  (q2 : (d.fName.toList == e.fName.toList) = true)  (q3 : (d.fAtX == e.fAtX) = true) (q4 : (d.fAtY == e.fAtY) = false) :
    Calls Try.prog 32 #[.pointer (some ⟨bk, off, none⟩), .pointer (some ⟨bk', off', none⟩)] w fun e' w' => e' = .returned (.bool (sameAidB d e)) ∧ Below w.heap.size w w' := by
  have HR := hid (show sameAidB d e = false by simp [sameAidB, *])
  have x0 := hx 0 (by omega)
  have y0 := hy 0 (by omega)
  have x1 := hx 1 (by omega)
  have y1 := hy 1 (by omega)
  have x2 := hx 2 (by omega)
  have y2 := hy 2 (by omega)
  have x3 := hx 3 (by omega)
  have y3 := hy 3 (by omega)
  simp only [encAid, List.getD_cons_zero, List.getD_cons_succ, Nat.add_zero] at x0 y0 x1 y1 x2 y2 x3 y3
  obtain ⟨hd1, hd2⟩ := hd
  obtain ⟨he1, he2⟩ := he
  have rx0 := cellr x0
  have ry0 := cellr y0
  have rx1 := cellr x1
  have ry1 := cellr y1
  have rx2 := cellr x2
  have ry2 := cellr y2
  have rx3 := cellr x3
  have ry3 := cellr y3
  clear hx hy hd1 hd2 he1 he2 x0 y0 x1 y1 x2 y2 x3 y3
  go_enter Try.func32, Try.ntmps32
  go_wp2
  (refine wp_region_quiet_below (by kernel_rfl) (by kernel_rfl) ?_; (try simp only [List.append_eq, List.cons_append, List.nil_append]); (repeat (go_big_quiet_step ((fail)))); refine wpQuiet_nil ?_; intro w1 hw'; have hb := below_of_regrown hw'; clear hw'; obtain ⟨hc, hf⟩ := bcell hb; have hz := hb.size; (try simp at hz); (try have hz0 : ∀ b, b < w.heap.size → b < w1.heap.size := fun b h => by omega); (try have hz1 : w.heap.size < w1.heap.size := by omega); (try have hz2 : w.heap.size + 1 < w1.heap.size := by omega); (try have hz3 : w.heap.size + 2 < w1.heap.size := by omega))
  go_wp2
  go_ret
  exact ⟨ret_bool HR.out.symm, by (repeat' (first | (with_reducible exact Below.refl _ _) | (with_reducible refine Below.alloc ?_ ?_ _) | (with_reducible refine Below.drew ?_) | (with_reducible refine below_drewN ?_ _) | (with_reducible refine Below.setCell ?_ ?_ _) | (with_reducible refine below_via ‹_› ?_ ?_) | (with_reducible refine below_grow ?_ ?_ _ _) | omega | (simp; done) | (simp; omega)))⟩
set_option maxHeartbeats 16000000 in
theorem c_l12Same4 (bk off bk' off' : Nat) (d e : AidD) (w : World) (hd : inAid w 0 d) (he : inAid w 0 e) (hx : ∀ j, j < 16 → w.cell? ⟨bk, off + j, none⟩ = some ((encAid d).getD j undef)) (hy : ∀ j, j < 16 → w.cell? ⟨bk', off' + j, none⟩ = some ((encAid e).getD j undef)) (q1 : (d.fNumber == e.fNumber) = true)  (q2 : (d.fName.toList == e.fName.toList) = true)  (q3 : (d.fAtX == e.fAtX) = true)  (q4 : (d.fAtY == e.fAtY) = true) (q5 : (d.fHeight == e.fHeight) = false) :
    Calls Try.prog 32 #[.pointer (some ⟨bk, off, none⟩), .pointer (some ⟨bk', off', none⟩)] w fun e' w' => e' = .returned (.bool (sameAidB d e)) ∧ Below w.heap.size w w' := by
  have HR := hid (show sameAidB d e = false by simp [sameAidB, *])
  have x0 := hx 0 (by omega)
  have y0 := hy 0 (by omega)
  have x1 := hx 1 (by omega)
  have y1 := hy 1 (by omega)
  have x2 := hx 2 (by omega)
  have y2 := hy 2 (by omega)
  have x3 := hx 3 (by omega)
  have y3 := hy 3 (by omega)
  have x4 := hx 4 (by omega)
  have y4 := hy 4 (by omega)
  simp only [encAid, List.getD_cons_zero, List.getD_cons_succ, Nat.add_zero] at x0 y0 x1 y1 x2 y2 x3 y3 x4 y4
  obtain ⟨hd1, hd2⟩ := hd
  obtain ⟨he1, he2⟩ := he
  have rx0 := cellr x0
  have ry0 := cellr y0
  have rx1 := cellr x1
  have ry1 := cellr y1
  have rx2 := cellr x2
  have ry2 := cellr y2
  have rx3 := cellr x3
  have ry3 := cellr y3
  have rx4 := cellr x4
  have ry4 := cellr y4
  clear hx hy hd1 hd2 he1 he2 x0 y0 x1 y1 x2 y2 x3 y3 x4 y4
  go_enter Try.func32, Try.ntmps32
  go_wp2
  (refine wp_region_quiet_below (by kernel_rfl) (by kernel_rfl) ?_; (try simp only [List.append_eq, List.cons_append, List.nil_append]); (repeat (go_big_quiet_step ((fail)))); refine wpQuiet_nil ?_; intro w1 hw'; have hb := below_of_regrown hw'; clear hw'; obtain ⟨hc, hf⟩ := bcell hb; have hz := hb.size; (try simp at hz); (try have hz0 : ∀ b, b < w.heap.size → b < w1.heap.size := fun b h => by omega); (try have hz1 : w.heap.size < w1.heap.size := by omega); (try have hz2 : w.heap.size + 1 < w1.heap.size := by omega); (try have hz3 : w.heap.size + 2 < w1.heap.size := by omega))
  go_wp2
  go_ret
  exact ⟨ret_bool HR.out.symm, by (repeat' (first | (with_reducible exact Below.refl _ _) | (with_reducible refine Below.alloc ?_ ?_ _) | (with_reducible refine Below.drew ?_) | (with_reducible refine below_drewN ?_ _) | (with_reducible refine Below.setCell ?_ ?_ _) | (with_reducible refine below_via ‹_› ?_ ?_) | (with_reducible refine below_grow ?_ ?_ _ _) | omega | (simp; done) | (simp; omega)))⟩
set_option maxHeartbeats 16000000 in
theorem c_l12Same5 (bk off bk' off' : Nat) (d e : AidD) (w : World) (hd : inAid w 0 d) (he : inAid w 0 e) (hx : ∀ j, j < 16 → w.cell? ⟨bk, off + j, none⟩ = some ((encAid d).getD j undef)) (hy : ∀ j, j < 16 → w.cell? ⟨bk', off' + j, none⟩ = some ((encAid e).getD j undef)) (q1 : (d.fNumber == e.fNumber) = true)  (q2 : (d.fName.toList == e.fName.toList) = true)  (q3 : (d.fAtX == e.fAtX) = true)  (q4 : (d.fAtY == e.fAtY) = true)  (q5 : (d.fHeight == e.fHeight) = true) (q6 : (d.fMarkKind == e.fMarkKind) = false) :
    Calls Try.prog 32 #[.pointer (some ⟨bk, off, none⟩), .pointer (some ⟨bk', off', none⟩)] w fun e' w' => e' = .returned (.bool (sameAidB d e)) ∧ Below w.heap.size w w' := by
  have HR := hid (show sameAidB d e = false by simp [sameAidB, *])
  have x0 := hx 0 (by omega)
  have y0 := hy 0 (by omega)
  have x1 := hx 1 (by omega)
  have y1 := hy 1 (by omega)
  have x2 := hx 2 (by omega)
  have y2 := hy 2 (by omega)
  have x3 := hx 3 (by omega)
  have y3 := hy 3 (by omega)
  have x4 := hx 4 (by omega)
  have y4 := hy 4 (by omega)
  have x5 := hx 5 (by omega)
  have y5 := hy 5 (by omega)
  have x6 := hx 6 (by omega)
  have y6 := hy 6 (by omega)
  have x7 := hx 7 (by omega)
  have y7 := hy 7 (by omega)
  have x8 := hx 8 (by omega)
  have y8 := hy 8 (by omega)
  simp only [encAid, List.getD_cons_zero, List.getD_cons_succ, Nat.add_zero] at x0 y0 x1 y1 x2 y2 x3 y3 x4 y4 x5 y5 x6 y6 x7 y7 x8 y8
  obtain ⟨hd1, hd2⟩ := hd
  obtain ⟨he1, he2⟩ := he
  have rx0 := cellr x0
  have ry0 := cellr y0
  have rx1 := cellr x1
  have ry1 := cellr y1
  have rx2 := cellr x2
  have ry2 := cellr y2
  have rx3 := cellr x3
  have ry3 := cellr y3
  have rx4 := cellr x4
  have ry4 := cellr y4
  have rx5 := cellr x5
  have ry5 := cellr y5
  have rx6 := cellr x6
  have ry6 := cellr y6
  have rx7 := cellr x7
  have ry7 := cellr y7
  have rx8 := cellr x8
  have ry8 := cellr y8
  clear hx hy hd1 hd2 he1 he2 x0 y0 x1 y1 x2 y2 x3 y3 x4 y4 x5 y5 x6 y6 x7 y7 x8 y8
  go_enter Try.func32, Try.ntmps32
  go_wp2
  (refine wp_region_quiet_below (by kernel_rfl) (by kernel_rfl) ?_; (try simp only [List.append_eq, List.cons_append, List.nil_append]); (repeat (go_big_quiet_step ((fail)))); refine wpQuiet_nil ?_; intro w1 hw'; have hb := below_of_regrown hw'; clear hw'; obtain ⟨hc, hf⟩ := bcell hb; have hz := hb.size; (try simp at hz); (try have hz0 : ∀ b, b < w.heap.size → b < w1.heap.size := fun b h => by omega); (try have hz1 : w.heap.size < w1.heap.size := by omega); (try have hz2 : w.heap.size + 1 < w1.heap.size := by omega); (try have hz3 : w.heap.size + 2 < w1.heap.size := by omega))
  go_wp2
  go_ret
  exact ⟨ret_bool HR.out.symm, by (repeat' (first | (with_reducible exact Below.refl _ _) | (with_reducible refine Below.alloc ?_ ?_ _) | (with_reducible refine Below.drew ?_) | (with_reducible refine below_drewN ?_ _) | (with_reducible refine Below.setCell ?_ ?_ _) | (with_reducible refine below_via ‹_› ?_ ?_) | (with_reducible refine below_grow ?_ ?_ _ _) | omega | (simp; done) | (simp; omega)))⟩
set_option maxHeartbeats 16000000 in
theorem c_l12Same6 (bk off bk' off' : Nat) (d e : AidD) (w : World) (hd : inAid w 0 d) (he : inAid w 0 e) (hx : ∀ j, j < 16 → w.cell? ⟨bk, off + j, none⟩ = some ((encAid d).getD j undef)) (hy : ∀ j, j < 16 → w.cell? ⟨bk', off' + j, none⟩ = some ((encAid e).getD j undef)) (q1 : (d.fNumber == e.fNumber) = true)  (q2 : (d.fName.toList == e.fName.toList) = true)  (q3 : (d.fAtX == e.fAtX) = true)  (q4 : (d.fAtY == e.fAtY) = true)  (q5 : (d.fHeight == e.fHeight) = true)  (q6 : (d.fMarkKind == e.fMarkKind) = true) (q7 : (d.fMarkColors.toList == e.fMarkColors.toList) = false) :
    Calls Try.prog 32 #[.pointer (some ⟨bk, off, none⟩), .pointer (some ⟨bk', off', none⟩)] w fun e' w' => e' = .returned (.bool (sameAidB d e)) ∧ Below w.heap.size w w' := by
  have HR := hid (show sameAidB d e = false by simp [sameAidB, *])
  have x0 := hx 0 (by omega)
  have y0 := hy 0 (by omega)
  have x1 := hx 1 (by omega)
  have y1 := hy 1 (by omega)
  have x2 := hx 2 (by omega)
  have y2 := hy 2 (by omega)
  have x3 := hx 3 (by omega)
  have y3 := hy 3 (by omega)
  have x4 := hx 4 (by omega)
  have y4 := hy 4 (by omega)
  have x5 := hx 5 (by omega)
  have y5 := hy 5 (by omega)
  have x6 := hx 6 (by omega)
  have y6 := hy 6 (by omega)
  have x7 := hx 7 (by omega)
  have y7 := hy 7 (by omega)
  have x8 := hx 8 (by omega)
  have y8 := hy 8 (by omega)
  simp only [encAid, List.getD_cons_zero, List.getD_cons_succ, Nat.add_zero] at x0 y0 x1 y1 x2 y2 x3 y3 x4 y4 x5 y5 x6 y6 x7 y7 x8 y8
  obtain ⟨hd1, hd2⟩ := hd
  obtain ⟨he1, he2⟩ := he
  have rx0 := cellr x0
  have ry0 := cellr y0
  have rx1 := cellr x1
  have ry1 := cellr y1
  have rx2 := cellr x2
  have ry2 := cellr y2
  have rx3 := cellr x3
  have ry3 := cellr y3
  have rx4 := cellr x4
  have ry4 := cellr y4
  have rx5 := cellr x5
  have ry5 := cellr y5
  have rx6 := cellr x6
  have ry6 := cellr y6
  have rx7 := cellr x7
  have ry7 := cellr y7
  have rx8 := cellr x8
  have ry8 := cellr y8
  clear hx hy hd1 hd2 he1 he2 x0 y0 x1 y1 x2 y2 x3 y3 x4 y4 x5 y5 x6 y6 x7 y7 x8 y8
  go_enter Try.func32, Try.ntmps32
  go_wp2
  (refine wp_region_quiet_below (by kernel_rfl) (by kernel_rfl) ?_; (try simp only [List.append_eq, List.cons_append, List.nil_append]); (repeat (go_big_quiet_step ((fail)))); refine wpQuiet_nil ?_; intro w1 hw'; have hb := below_of_regrown hw'; clear hw'; obtain ⟨hc, hf⟩ := bcell hb; have hz := hb.size; (try simp at hz); (try have hz0 : ∀ b, b < w.heap.size → b < w1.heap.size := fun b h => by omega); (try have hz1 : w.heap.size < w1.heap.size := by omega); (try have hz2 : w.heap.size + 1 < w1.heap.size := by omega); (try have hz3 : w.heap.size + 2 < w1.heap.size := by omega))
  go_wp2
  go_ret
  exact ⟨ret_bool HR.out.symm, by (repeat' (first | (with_reducible exact Below.refl _ _) | (with_reducible refine Below.alloc ?_ ?_ _) | (with_reducible refine Below.drew ?_) | (with_reducible refine below_drewN ?_ _) | (with_reducible refine Below.setCell ?_ ?_ _) | (with_reducible refine below_via ‹_› ?_ ?_) | (with_reducible refine below_grow ?_ ?_ _ _) | omega | (simp; done) | (simp; omega)))⟩
set_option maxHeartbeats 16000000 in
theorem c_l12Same7 (bk off bk' off' : Nat) (d e : AidD) (w : World) (hd : inAid w 0 d) (he : inAid w 0 e) (hx : ∀ j, j < 16 → w.cell? ⟨bk, off + j, none⟩ = some ((encAid d).getD j undef)) (hy : ∀ j, j < 16 → w.cell? ⟨bk', off' + j, none⟩ = some ((encAid e).getD j undef)) (q1 : (d.fNumber == e.fNumber) = true)  (q2 : (d.fName.toList == e.fName.toList) = true)  (q3 : (d.fAtX == e.fAtX) = true)  (q4 : (d.fAtY == e.fAtY) = true)  (q5 : (d.fHeight == e.fHeight) = true)  (q6 : (d.fMarkKind == e.fMarkKind) = true)  (q7 : (d.fMarkColors.toList == e.fMarkColors.toList) = true) (q8 : (d.fMarkShape.toList == e.fMarkShape.toList) = false) :
    Calls Try.prog 32 #[.pointer (some ⟨bk, off, none⟩), .pointer (some ⟨bk', off', none⟩)] w fun e' w' => e' = .returned (.bool (sameAidB d e)) ∧ Below w.heap.size w w' := by
  have HR := hid (show sameAidB d e = false by simp [sameAidB, *])
  have x0 := hx 0 (by omega)
  have y0 := hy 0 (by omega)
  have x1 := hx 1 (by omega)
  have y1 := hy 1 (by omega)
  have x2 := hx 2 (by omega)
  have y2 := hy 2 (by omega)
  have x3 := hx 3 (by omega)
  have y3 := hy 3 (by omega)
  have x4 := hx 4 (by omega)
  have y4 := hy 4 (by omega)
  have x5 := hx 5 (by omega)
  have y5 := hy 5 (by omega)
  have x6 := hx 6 (by omega)
  have y6 := hy 6 (by omega)
  have x7 := hx 7 (by omega)
  have y7 := hy 7 (by omega)
  have x8 := hx 8 (by omega)
  have y8 := hy 8 (by omega)
  simp only [encAid, List.getD_cons_zero, List.getD_cons_succ, Nat.add_zero] at x0 y0 x1 y1 x2 y2 x3 y3 x4 y4 x5 y5 x6 y6 x7 y7 x8 y8
  obtain ⟨hd1, hd2⟩ := hd
  obtain ⟨he1, he2⟩ := he
  have rx0 := cellr x0
  have ry0 := cellr y0
  have rx1 := cellr x1
  have ry1 := cellr y1
  have rx2 := cellr x2
  have ry2 := cellr y2
  have rx3 := cellr x3
  have ry3 := cellr y3
  have rx4 := cellr x4
  have ry4 := cellr y4
  have rx5 := cellr x5
  have ry5 := cellr y5
  have rx6 := cellr x6
  have ry6 := cellr y6
  have rx7 := cellr x7
  have ry7 := cellr y7
  have rx8 := cellr x8
  have ry8 := cellr y8
  clear hx hy hd1 hd2 he1 he2 x0 y0 x1 y1 x2 y2 x3 y3 x4 y4 x5 y5 x6 y6 x7 y7 x8 y8
  go_enter Try.func32, Try.ntmps32
  go_wp2
  (refine wp_region_quiet_below (by kernel_rfl) (by kernel_rfl) ?_; (try simp only [List.append_eq, List.cons_append, List.nil_append]); (repeat (go_big_quiet_step ((fail)))); refine wpQuiet_nil ?_; intro w1 hw'; have hb := below_of_regrown hw'; clear hw'; obtain ⟨hc, hf⟩ := bcell hb; have hz := hb.size; (try simp at hz); (try have hz0 : ∀ b, b < w.heap.size → b < w1.heap.size := fun b h => by omega); (try have hz1 : w.heap.size < w1.heap.size := by omega); (try have hz2 : w.heap.size + 1 < w1.heap.size := by omega); (try have hz3 : w.heap.size + 2 < w1.heap.size := by omega))
  go_wp2
  go_ret
  exact ⟨ret_bool HR.out.symm, by (repeat' (first | (with_reducible exact Below.refl _ _) | (with_reducible refine Below.alloc ?_ ?_ _) | (with_reducible refine Below.drew ?_) | (with_reducible refine below_drewN ?_ _) | (with_reducible refine Below.setCell ?_ ?_ _) | (with_reducible refine below_via ‹_› ?_ ?_) | (with_reducible refine below_grow ?_ ?_ _ _) | omega | (simp; done) | (simp; omega)))⟩
end Go.Proofs.Ytjibilibdjfdcaa
