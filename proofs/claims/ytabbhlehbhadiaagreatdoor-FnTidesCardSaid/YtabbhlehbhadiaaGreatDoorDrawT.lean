/- The reference's draws of a tide and of its times: no panic, and nothing but the source turns. -/
import Derived.Test.YtabbhlehbhadiaaGreatDoorDraw0
import Derived.Test.YtabbhlehbhadiaaGreatDoorTide
import Derived.Deep.RegionHeld3
namespace Go.Proofs.YtabbhlehbhadiaaGreatDoor
open Go.RowKit Go.Sort
set_option linter.unusedVariables false
set_option maxRecDepth 100000

theorem AccD.setOther {α : Type} {W w : World} {g n : Nat} {e : TypeId} {enc : α → List Value} {v : Value} {xs : List α} (h : AccD W g e n enc w v xs) {P i : Nat} (u : Value) (hP : W.heap.size ≤ P) (hne : v.ownBlock ≠ some P) : AccD W g e n enc (w.setCell ⟨P, i, none⟩ u) v xs := by
  have hk : Kept (fun b => b = P) w (w.setCell ⟨P, i, none⟩ u) := (Kept.refl _ w).set ⟨P, i, none⟩ u rfl
  refine ⟨h.own.kept (row := some P) ⟨hk.os, hk.tape, hk.output, hk.size, fun k hk1 hk2 => hk.block k hk1 fun e => hk2 (by rw [e])⟩ (.inr hne), h.kept.setNew hP u, h.lt⟩
/-- a tide that was drawn -/
def TideR (lo g k : Nat) (w : World) (e : Ending) (w' : World) : Prop := ∃ (a b : Int) (v : Value) (xs : List Int), e = .returned (.agg #[.int .i64 a, .int .i64 b, v]) ∧ Drew g k w w' ∧ SlO w' w.heap.size 1 encI v xs ∧ lo ≤ xs.length ∧ xs.length ≤ 65
def DrT (w : World) (g k P R : Nat) (a b : Int) (n0 : Nat) (hi u : Value) (wr : World) : Prop :=
  ∃ (j : Nat) (bb : Bool) (v : Value) (xs : List Int), hi = .bool bb ∧ u = .int .i64 j ∧ xs.length + j = n0 ∧ AccD w g 2 1 encI wr v xs ∧ Src wr g (k + 10 + 6 * xs.length) ∧
    Bk wr P 26 [.int .i64 a, .int .i64 b, v] ∧ Bk wr R 26 [.int .i64 0, .int .i64 0, .slice none 0 0] ∧ v.ownBlock ≠ some P ∧ v.ownBlock ≠ some R
set_option maxHeartbeats 2000000 in
theorem c_l26DrawOk (g k : Nat) (w : World) (h : Src w g k) (hk : k ≤ 100000) :
    Calls Tryz.prog 66 #[.pointer (some ⟨g, 0, none⟩)] w (TideR 2 g (k + 46) w) := by
  have hg := h.lt
  obtain ⟨i0, hi, iz0, iz1, iz2⟩ := info_parts info_Int64
  have n0 : w.heap.size ≠ g := by omega
  go_enter Tryz.func66, Tryz.ntmps66
  go_wp2_with fail
  refine (c_pick g k _ _ (by (repeat' (first | (with_reducible assumption) | (with_reducible apply Drew.src; with_reducible assumption) | (with_reducible apply Src.viaB; with_reducible assumption) | (with_reducible refine Src.alloc ?_ _) | (with_reducible refine Src.setFar ?_ ?_ _) | (with_reducible refine Src.drew ?_) | (with_reducible refine Src.drewN ?_ _) | omega | (simp; done) | (simp; omega)))) (by omega) (by omega)).mono ?_
  rintro e w1 ⟨a, rfl, hx, hd1⟩
  have hz1 := hd1.size
  simp at hz1
  have R1 : Bk w1 w.heap.size 26 [.int .i64 0, .int .i64 0, .slice none 0 0] := (by (repeat' (first | (with_reducible exact Bk.new _ _ _) | (with_reducible refine Bk.new1 ?_; first | rfl | (simp; done) | omega) | (with_reducible assumption) | (with_reducible refine Bk.alloc ?_ _) | (with_reducible refine Bk.drew ?_) | (with_reducible refine Bk.drewN ?_ _) | (with_reducible refine Bk.other ?_ ?_ _) | (with_reducible apply Bk.drewBy; with_reducible assumption) | (with_reducible apply Bk.viaB; with_reducible assumption) | omega | (simp; done))))
  have K1 : Kept (fun b => b = g) w w1 := (Kept.of (by (repeat' (first | (with_reducible exact Below.refl _ _) | (with_reducible refine Below.alloc ?_ ?_ _) | (with_reducible refine Below.drew ?_) | (with_reducible refine below_drewN ?_ _) | (with_reducible refine Below.setCell ?_ ?_ _) | (with_reducible refine below_via ‹_› ?_ ?_) | (with_reducible refine below_grow ?_ ?_ _ _) | omega | (simp; done) | (simp; omega))))).trans hd1.kept
  clear hx
  go_wp2_with fail
  refine (c_among g (k + 2) _ _ _ (by (repeat' (first | (with_reducible assumption) | (with_reducible apply Drew.src; with_reducible assumption) | (with_reducible apply Src.viaB; with_reducible assumption) | (with_reducible refine Src.alloc ?_ _) | (with_reducible refine Src.setFar ?_ ?_ _) | (with_reducible refine Src.drew ?_) | (with_reducible refine Src.drewN ?_ _) | omega | (simp; done) | (simp; omega)))) (by omega) (by first | exact (lit_at (enc := encI) (fun _ => rfl) [60, 90, 120, 373, 200] rfl (by first | rfl | (simp; done)) (by first | omega | (simp; omega)) rfl rfl (by simp) (by simp)) | exact Lit.drew (lit_at (enc := encI) (fun _ => rfl) [60, 90, 120, 373, 200] rfl (by first | rfl | (simp; done)) (by first | omega | (simp; omega)) rfl rfl (by simp) (by simp)) | fail)).mono ?_
  rintro e w2 ⟨b, rfl, hb, hd2⟩
  have hz2 := hd2.size
  rw [World.size_alloc] at hz2
  have R2 : Bk w2 w.heap.size 26 [.int .i64 0, .int .i64 0, .slice none 0 0] := (by (repeat' (first | (with_reducible exact Bk.new _ _ _) | (with_reducible refine Bk.new1 ?_; first | rfl | (simp; done) | omega) | (with_reducible assumption) | (with_reducible refine Bk.alloc ?_ _) | (with_reducible refine Bk.drew ?_) | (with_reducible refine Bk.drewN ?_ _) | (with_reducible refine Bk.other ?_ ?_ _) | (with_reducible apply Bk.drewBy; with_reducible assumption) | (with_reducible apply Bk.viaB; with_reducible assumption) | omega | (simp; done))))
  have K2 : Kept (fun b => b = g) w w2 := K1.trans ((Kept.of (by (repeat' (first | (with_reducible exact Below.refl _ _) | (with_reducible refine Below.alloc ?_ ?_ _) | (with_reducible refine Below.drew ?_) | (with_reducible refine below_drewN ?_ _) | (with_reducible refine Below.setCell ?_ ?_ _) | (with_reducible refine below_via ‹_› ?_ ?_) | (with_reducible refine below_grow ?_ ?_ _ _) | omega | (simp; done) | (simp; omega))))).trans hd2.kept)
  clear hb R1 K1 hd1
  go_wp2_with fail
  refine (c_one g (k + 4) _ _ (by (repeat' (first | (with_reducible assumption) | (with_reducible apply Drew.src; with_reducible assumption) | (with_reducible apply Src.viaB; with_reducible assumption) | (with_reducible refine Src.alloc ?_ _) | (with_reducible refine Src.setFar ?_ ?_ _) | (with_reducible refine Src.drew ?_) | (with_reducible refine Src.drewN ?_ _) | omega | (simp; done) | (simp; omega)))) (by omega) (by omega)).mono ?_
  rintro e w3 ⟨bb, rfl, hd3⟩
  have hz3 := hd3.size
  rw [World.size_alloc] at hz3
  have P3 : Bk w3 w2.heap.size 26 [.int .i64 a, .int .i64 b, .slice none 0 0] := (by (repeat' (first | (with_reducible exact Bk.new _ _ _) | (with_reducible refine Bk.new1 ?_; first | rfl | (simp; done) | omega) | (with_reducible assumption) | (with_reducible refine Bk.alloc ?_ _) | (with_reducible refine Bk.drew ?_) | (with_reducible refine Bk.drewN ?_ _) | (with_reducible refine Bk.other ?_ ?_ _) | (with_reducible apply Bk.drewBy; with_reducible assumption) | (with_reducible apply Bk.viaB; with_reducible assumption) | omega | (simp; done))))
  have R3 : Bk w3 w.heap.size 26 [.int .i64 0, .int .i64 0, .slice none 0 0] := (by (repeat' (first | (with_reducible exact Bk.new _ _ _) | (with_reducible refine Bk.new1 ?_; first | rfl | (simp; done) | omega) | (with_reducible assumption) | (with_reducible refine Bk.alloc ?_ _) | (with_reducible refine Bk.drew ?_) | (with_reducible refine Bk.drewN ?_ _) | (with_reducible refine Bk.other ?_ ?_ _) | (with_reducible apply Bk.drewBy; with_reducible assumption) | (with_reducible apply Bk.viaB; with_reducible assumption) | omega | (simp; done))))
  have K3 : Kept (fun b => b = g) w w3 := K2.trans ((Kept.of (by (repeat' (first | (with_reducible exact Below.refl _ _) | (with_reducible refine Below.alloc ?_ ?_ _) | (with_reducible refine Below.drew ?_) | (with_reducible refine below_drewN ?_ _) | (with_reducible refine Below.setCell ?_ ?_ _) | (with_reducible refine below_via ‹_› ?_ ?_) | (with_reducible refine below_grow ?_ ?_ _ _) | omega | (simp; done) | (simp; omega))))).trans hd3.kept)
  clear R2 K2 hd2
  go_wp2_with fail
  refine (c_pick g (k + 6) _ _ (by (repeat' (first | (with_reducible assumption) | (with_reducible apply Drew.src; with_reducible assumption) | (with_reducible apply Src.viaB; with_reducible assumption) | (with_reducible refine Src.alloc ?_ _) | (with_reducible refine Src.setFar ?_ ?_ _) | (with_reducible refine Src.drew ?_) | (with_reducible refine Src.drewN ?_ _) | omega | (simp; done) | (simp; omega)))) (by omega) (by omega)).mono ?_
  rintro e w4 ⟨n, rfl, hx, hd4⟩
  have hz4 := hd4.size
  obtain ⟨N, rfl⟩ : ∃ N : Nat, n = N := ⟨n.toNat, by omega⟩
  have hN : N < 5 := by have := hx.2.1 (by omega); omega
  have P4 : Bk w4 w2.heap.size 26 [.int .i64 a, .int .i64 b, .slice none 0 0] := (by (repeat' (first | (with_reducible exact Bk.new _ _ _) | (with_reducible refine Bk.new1 ?_; first | rfl | (simp; done) | omega) | (with_reducible assumption) | (with_reducible refine Bk.alloc ?_ _) | (with_reducible refine Bk.drew ?_) | (with_reducible refine Bk.drewN ?_ _) | (with_reducible refine Bk.other ?_ ?_ _) | (with_reducible apply Bk.drewBy; with_reducible assumption) | (with_reducible apply Bk.viaB; with_reducible assumption) | omega | (simp; done))))
  have R4 : Bk w4 w.heap.size 26 [.int .i64 0, .int .i64 0, .slice none 0 0] := (by (repeat' (first | (with_reducible exact Bk.new _ _ _) | (with_reducible refine Bk.new1 ?_; first | rfl | (simp; done) | omega) | (with_reducible assumption) | (with_reducible refine Bk.alloc ?_ _) | (with_reducible refine Bk.drew ?_) | (with_reducible refine Bk.drewN ?_ _) | (with_reducible refine Bk.other ?_ ?_ _) | (with_reducible apply Bk.drewBy; with_reducible assumption) | (with_reducible apply Bk.viaB; with_reducible assumption) | omega | (simp; done))))
  have K4 : Kept (fun b => b = g) w w4 := K3.trans hd4.kept
  have S4 : Src w4 g (k + 6 + 2) := hd4.src
  clear R3 P3 K3 hd3 hd4 hx
  go_wp2_with fail
  go_loopw [4, 5] (fun hi u wr => DrT w g k w2.heap.size w.heap.size a b (N + 2) hi u wr) (fun _ u _ => (intOf u).toNat)
  case atStart => exact ⟨N + 2, bb, _, [], rfl, by go_num, by simp, AccD.nil K4 hg _ _ _, S4.mono (by omega), P4, R4, by simp [Value.ownBlock], by simp [Value.ownBlock]⟩
  case round =>
    clear P4 R4 K4 S4
    obtain ⟨j, bq, v, xs, rfl, rfl, hl, hA, hS, hP, hR, hn1, hn2⟩ := hrel
    have hzr := hA.kept.size
    have hsP := hP.lt
    obtain ⟨adv, cpv, rfl⟩ := (hA.slo (fun _ => rfl)).1.form
    by_cases hlt : 0 < j
    · have hltI : (0 : Int) < j := by omega
      have HL := hid hl
      have hxl : xs.length ≤ 6 := by omega
      have hj6 : j ≤ 6 := by omega
      clear hl
      go_wp2_with fail
      refine (c_pick g (k + 10 + 6 * xs.length) _ _ hS (by omega) (by omega)).mono ?_
      rintro e w5 ⟨x, rfl, hx, hd5⟩
      have hz5 := hd5.size
      have hx0 := hx.1
      have hx1 : x < 15 := hx.2.1 (by omega)
      have A5 := hA.by hd5
      have P5 := Bk.drewBy hd5 (by omega) hP
      have R5 := Bk.drewBy hd5 (by omega) hR
      have S5 := hd5.src
      clear hx hA hP hR hS hd5
      have q2 := P5.cell 2 rfl
      have qf := P5.fr 2
      cases bq
      case false =>
        go_wp2_with (at_builtin; refine wpList_pushD (α := Int) rfl (.tmp 29) (.tmp 32) 24 rfl i0 (.int .i64 0) 8 Tryz.underlying24 hi iz0 iz1 iz2 rfl (by decide) (fun _ => rfl) (x - 5) rfl A5 2 1 rfl (one_encI _) (by unfold maxLen; omega) (by omega) ?_; intro v6 w6 A6 K6 hat6; obtain ⟨ad6, cp6, hv6⟩ := (A6.slo (fun _ => rfl)).1.form; rw [List.length_append, List.length_singleton] at hv6; subst hv6; have P6 := Bk.kept P5 K6 hn1; have R6 := Bk.kept R5 K6 hn2; have p2 := P6.cell 2 rfl; have pf := P6.fr 2)
        have n1 : (Value.slice ad6 (xs.length + 1) cp6).ownBlock ≠ some w2.heap.size := by
          rcases hat6 with e | e
          · rw [e]; exact hn1
          · rw [e]; intro e2; injection e2 with e2; have := P5.lt; omega
        have n2 : (Value.slice ad6 (xs.length + 1) cp6).ownBlock ≠ some w.heap.size := by
          rcases hat6 with e | e
          · rw [e]; exact hn2
          · rw [e]; intro e2; injection e2 with e2; have := R5.lt; omega
        have S6 : Src w6 g (k + 14 + 6 * xs.length) := (S5.kept K6 fun b hb => by have := A5.far b hb; omega).mono (by omega)
        have A7 := A6.setOther (P := w2.heap.size) (i := 2) (.slice ad6 (xs.length + 1) cp6) (by omega) n1
        have P7 : Bk (w6.setCell ⟨w2.heap.size, 2, none⟩ (.slice ad6 (xs.length + 1) cp6)) w2.heap.size 26 [.int .i64 a, .int .i64 b, .slice ad6 (xs.length + 1) cp6] := P6.set 2 _
        have R7 := R6.other (q := w2.heap.size) (i := 2) (by omega) (.slice ad6 (xs.length + 1) cp6)
        have S7 := S6.setFar (q := w2.heap.size) (o := 2) (by omega) (.slice ad6 (xs.length + 1) cp6)
        clear A5 P5 R5 S5 A6 K6 hat6 P6 R6 S6 p2 pf q2 qf hn1 hn2
        refine (c_one g (k + 14 + 6 * xs.length) 9 _ S7 (by omega) (by omega)).mono ?_
        rintro e w8 ⟨b8, rfl, hd8⟩
        have A8 := A7.by hd8
        have P8 := Bk.drewBy hd8 (by omega) P7
        have R8 := Bk.drewBy hd8 (by omega) R7
        have S8 := hd8.src
        clear A7 P7 R7 S7 hd8
        cases b8
        all_goals
          go_wp2_with fail
          go_roundw
          case rel => exact ⟨j - 1, _, _, _, rfl, by go_num, by simp; have := HL.out; omega, A8, S8.mono (by simp; omega), P8, R8, n1, n2⟩
          case measure => simp [intOf]; omega
      case true =>
        go_wp2_with fail
        refine (c_pick g (k + 12 + 6 * xs.length) _ _ (S5.mono (by omega)) (by omega) (by omega)).mono ?_
        rintro e w5b ⟨y, rfl, hy, hd5⟩
        have hz5b := hd5.size
        have hy0 := hy.1
        have hy1 : y < 30 := hy.2.1 (by omega)
        have A5b := A5.by hd5
        have P5b := Bk.drewBy hd5 (by omega) P5
        have R5b := Bk.drewBy hd5 (by omega) R5
        have S5b : Src w5b g (k + 14 + 6 * xs.length) := hd5.src.mono (by omega)
        clear A5 P5 R5 S5 hd5 hy q2 qf
        have q2 := P5b.cell 2 rfl
        have qf := P5b.fr 2
        go_wp2_with (at_builtin; refine wpList_pushD (α := Int) rfl (.tmp 29) (.tmp 32) 24 rfl i0 (.int .i64 0) 8 Tryz.underlying24 hi iz0 iz1 iz2 rfl (by decide) (fun _ => rfl) (25 + y - 5) rfl A5b 2 1 rfl (one_encI _) (by unfold maxLen; omega) (by omega) ?_; intro v6 w6 A6 K6 hat6; obtain ⟨ad6, cp6, hv6⟩ := (A6.slo (fun _ => rfl)).1.form; rw [List.length_append, List.length_singleton] at hv6; subst hv6; have P6 := Bk.kept P5b K6 hn1; have R6 := Bk.kept R5b K6 hn2; have p2 := P6.cell 2 rfl; have pf := P6.fr 2)
        have n1 : (Value.slice ad6 (xs.length + 1) cp6).ownBlock ≠ some w2.heap.size := by
          rcases hat6 with e | e
          · rw [e]; exact hn1
          · rw [e]; intro e2; injection e2 with e2; have := P5b.lt; omega
        have n2 : (Value.slice ad6 (xs.length + 1) cp6).ownBlock ≠ some w.heap.size := by
          rcases hat6 with e | e
          · rw [e]; exact hn2
          · rw [e]; intro e2; injection e2 with e2; have := R5b.lt; omega
        have S6 : Src w6 g (k + 14 + 6 * xs.length) := (S5b.kept K6 fun b hb => by have := A5b.far b hb; omega).mono (by omega)
        have A7 := A6.setOther (P := w2.heap.size) (i := 2) (.slice ad6 (xs.length + 1) cp6) (by omega) n1
        have P7 : Bk (w6.setCell ⟨w2.heap.size, 2, none⟩ (.slice ad6 (xs.length + 1) cp6)) w2.heap.size 26 [.int .i64 a, .int .i64 b, .slice ad6 (xs.length + 1) cp6] := P6.set 2 _
        have R7 := R6.other (q := w2.heap.size) (i := 2) (by omega) (.slice ad6 (xs.length + 1) cp6)
        have S7 := S6.setFar (q := w2.heap.size) (o := 2) (by omega) (.slice ad6 (xs.length + 1) cp6)
        clear A5b P5b R5b S5b A6 K6 hat6 P6 R6 S6 p2 pf q2 qf hn1 hn2
        refine (c_one g (k + 14 + 6 * xs.length) 9 _ S7 (by omega) (by omega)).mono ?_
        rintro e w8 ⟨b8, rfl, hd8⟩
        have A8 := A7.by hd8
        have P8 := Bk.drewBy hd8 (by omega) P7
        have R8 := Bk.drewBy hd8 (by omega) R7
        have S8 := hd8.src
        clear A7 P7 R7 S7 hd8
        cases b8
        all_goals
          go_wp2_with fail
          go_roundw
          case rel => exact ⟨j - 1, _, _, _, rfl, by go_num, by simp; have := HL.out; omega, A8, S8.mono (by simp; omega), P8, R8, n1, n2⟩
          case measure => simp [intOf]; omega
    · have hj0 : j = 0 := by omega
      subst hj0
      have r0 := hR.cell 0 rfl
      have r1 := hR.cell 1 rfl
      have r2 := hR.cell 2 rfl
      have p0 := hP.cell 0 rfl
      have p1 := hP.cell 1 rfl
      have p2 := hP.cell 2 rfl
      have fr := hR.fr
      have hne : w.heap.size ≠ w2.heap.size := by omega
      have HA := hid hA
      have HS := hid hS
      clear hA hS hP hR
      go_wp2_with fail
      refine bodyPost_ret (v := .agg #[.int .i64 a, .int .i64 b, .slice adv xs.length cpv]) (by simp [results, Tryz.results66, go_sem, *]) rfl ⟨a, b, _, xs, rfl, Drew.mk' (Kept.setNew (Kept.setNew (Kept.setNew HA.out.kept (Nat.le_refl _) _) (Nat.le_refl _) _) (Nat.le_refl _) _) (Src.setFar (Src.setFar (Src.setFar HS.out (by omega) _) (by omega) _) (by omega) _) (by omega), ?_, by omega, by omega⟩
      exact ((((HA.out.setOther (i := 0) (.int .i64 a) (Nat.le_refl _) hn2).setOther (i := 1) (.int .i64 b) (Nat.le_refl _) hn2).setOther (i := 2) (.slice adv xs.length cpv) (Nat.le_refl _) hn2).slo (fun _ => rfl))
def AnyN (g k : Nat) (w : World) (e : Ending) (w' : World) : Prop := ∃ x : Int, e = .returned (.int .i64 x) ∧ Drew g k w w'
theorem c_l20DrawTime (g k : Nat) (w : World) (h : Src w g k) (hk : k ≤ 100000) :
    Calls Tryz.prog 69 #[.pointer (some ⟨g, 0, none⟩)] w (AnyN g (k + 4) w) := by
  have hg := h.lt
  go_enter Tryz.func69, Tryz.ntmps69
  go_wp2_with fail
  refine (c_one g k _ _ (by (repeat' (first | (with_reducible assumption) | (with_reducible apply Drew.src; with_reducible assumption) | (with_reducible apply Src.viaB; with_reducible assumption) | (with_reducible refine Src.alloc ?_ _) | (with_reducible refine Src.setFar ?_ ?_ _) | (with_reducible refine Src.drew ?_) | (with_reducible refine Src.drewN ?_ _) | omega | (simp; done) | (simp; omega)))) (by omega) (by omega)).mono ?_
  rintro e w1 ⟨b, rfl, hd1⟩
  cases b
  · go_wp2_with fail
    refine (c_pick g (k + 2) _ _ hd1.src (by omega) (by omega)).mono ?_
    rintro e w2 ⟨x, rfl, -, hd2⟩
    go_wp2_with fail
    go_ret
    exact ⟨x, rfl, (hd1.trans hd2).mono (by omega)⟩
  · have hg1 := hd1.src.lt
    go_wp2_with fail
    refine (c_among g (k + 2) _ _ _ (by (repeat' (first | (with_reducible assumption) | (with_reducible apply Drew.src; with_reducible assumption) | (with_reducible apply Src.viaB; with_reducible assumption) | (with_reducible refine Src.alloc ?_ _) | (with_reducible refine Src.setFar ?_ ?_ _) | (with_reducible refine Src.drew ?_) | (with_reducible refine Src.drewN ?_ _) | omega | (simp; done) | (simp; omega)))) (by omega) (by first | exact (lit_at (enc := encI) (fun _ => rfl) [-1, 0, 143999999, 144000000] rfl (by first | rfl | (simp; done)) (by first | omega | (simp; omega)) rfl rfl (by simp) (by simp)) | exact Lit.drew (lit_at (enc := encI) (fun _ => rfl) [-1, 0, 143999999, 144000000] rfl (by first | rfl | (simp; done)) (by first | omega | (simp; omega)) rfl rfl (by simp) (by simp)) | fail)).mono ?_
    rintro e w2 ⟨x, rfl, -, hd2⟩
    go_wp2_with fail
    go_ret
    exact ⟨x, rfl, Drew.mk' (hd1.kept.trans ((Kept.of (by (repeat' (first | (with_reducible exact Below.refl _ _) | (with_reducible refine Below.alloc ?_ ?_ _) | (with_reducible refine Below.drew ?_) | (with_reducible refine below_drewN ?_ _) | (with_reducible refine Below.setCell ?_ ?_ _) | (with_reducible refine below_via ‹_› ?_ ?_) | (with_reducible refine below_grow ?_ ?_ _ _) | omega | (simp; done) | (simp; omega))))).trans hd2.kept)) hd2.src (by omega)⟩
/-- one element of a list of the call's own is written over -/
theorem SlO.setAt {w : World} {lo b off cap i : Nat} {xs : List Int} {y : Int} (h : SlO w lo 1 encI (.slice (some ⟨b, off, none⟩) xs.length cap) xs) (hi : i < xs.length) : SlO (w.setCell ⟨b, off + i, none⟩ (.int .i64 y)) lo 1 encI (.slice (some ⟨b, off, none⟩) xs.length cap) (xs.set i y) := by
  obtain ⟨h1, h2⟩ := h
  obtain ⟨k1, k2, k3⟩ := h2 b rfl
  refine ⟨?_, fun b' hb' => ?_⟩
  · rcases h1 with ⟨a, c, e, rfl, _⟩ | ⟨b', off', cap', e, p1, p2, p3, p4, p5, p6⟩
    · simp at hi
    · simp only [Value.slice.injEq, Option.some.injEq, Addr.mk.injEq] at e
      obtain ⟨⟨rfl, rfl, -⟩, -, rfl⟩ := e
      refine .inr ⟨b, off, cap, by simp, by simpa using p1, by simpa using p2, p3, p4, by rw [size_put]; exact p5, fun j hj q hq => ?_⟩
      have hj2 : j < xs.length := by simpa using hj
      have : q = 0 := by omega
      subst this
      have hc := p6 j hj2 0 (by omega)
      simp only [Nat.mul_one, Nat.add_zero] at hc ⊢
      by_cases e : j = i
      · subst e; rw [List.getElem_set_self]; exact cell_on hc
      · rw [List.getElem_set_ne (fun e' => e e'.symm)]; exact cell_off hc (by omega)
  · simp [Value.ownBlock] at hb'
    subst hb'
    exact ⟨by rw [size_put]; exact k1, k2, fun j => by rw [World.frozen?_setCell]; exact k3 j⟩
theorem SlO.pre {w : World} {lo len cap i : Nat} {ad : Option Addr} {xs : List Int} (h : SlO w lo 1 encI (.slice ad len cap) xs) (hi : i ≤ xs.length) : SlO w lo 1 encI (.slice ad i cap) (xs.take i) := by
  refine ⟨?_, fun b hb => h.2 b (by cases ad with
    | none => simp [Value.ownBlock] at hb
    | some p => simpa [Value.ownBlock] using hb)⟩
  rcases h.1 with ⟨a, c, e, rfl, hm⟩ | ⟨b, off, c, e, hp, hc, hm, hlo, hb, hx⟩
  · simp only [Value.slice.injEq] at e
    obtain ⟨rfl, rfl, rfl⟩ := e
    have : i = 0 := by simpa using hi
    subst this
    exact .inl ⟨_, _, rfl, by simp, hm⟩
  · simp only [Value.slice.injEq] at e
    obtain ⟨rfl, rfl, rfl⟩ := e
    by_cases h0 : i = 0
    · subst h0; exact .inl ⟨_, _, rfl, by simp, hm⟩
    · refine .inr ⟨b, off, cap, by rw [List.length_take, Nat.min_eq_left hi], by rw [List.length_take]; omega, by rw [List.length_take]; omega, hm, hlo, hb, fun j hj q hq => ?_⟩
      rw [List.getElem_take]; exact hx j (by rw [List.length_take] at hj; omega) q hq
theorem SlO.only {w w' : World} {lo n g : Nat} {α : Type} {enc : α → List Value} {v : Value} {xs : List α} (h : SlO w lo n enc v xs) (hk : Kept (fun b => b = g) w w') (hg : g < lo) : SlO w' lo n enc v xs :=
  h.kept hk fun b hb e => by obtain ⟨-, h2, -⟩ := h.2 b hb; omega
theorem SlO.far {w : World} {lo n P i : Nat} {α : Type} {enc : α → List Value} {v : Value} {xs : List α} (h : SlO w lo n enc v xs) (hP : v.ownBlock ≠ some P) (u : Value) : SlO (w.setCell ⟨P, i, none⟩ u) lo n enc v xs :=
  h.kept (M := fun b => b = P) ((Kept.refl _ w).set ⟨P, i, none⟩ u rfl) fun b hb e => hP (by rw [hb, e])
/-- only the source and the row of a list of the call's own have turned -/
def RowL (g hb ho lo len cap : Nat) (W w : World) : Prop := Kept (fun b => b = g ∨ b = hb) W w ∧ ∃ xs : List Int, xs.length = len ∧ SlO w lo 1 encI (.slice (some ⟨hb, ho, none⟩) len cap) xs
section
variable {g hb ho lo len cap : Nat} {W w w' : World}
theorem RowL.refl {xs : List Int} (h : SlO W lo 1 encI (.slice (some ⟨hb, ho, none⟩) len cap) xs) (hl : xs.length = len) : RowL g hb ho lo len cap W W := ⟨Kept.refl _ _, xs, hl, h⟩
theorem RowL.alloc (h : RowL g hb ho lo len cap W w) (o : Obj) : RowL g hb ho lo len cap W (w.alloc o) := by
  obtain ⟨h1, xs, h2, h3⟩ := h
  have hB : Below w.heap.size w (w.alloc o) := (Below.refl _ _).alloc (Nat.le_refl _) _
  exact ⟨h1.trans (Kept.of hB), xs, h2, h3.below hB (Nat.le_refl _)⟩
theorem RowL.drewN (h : RowL g hb ho lo len cap W w) (n : Nat) : RowL g hb ho lo len cap W (w.drewN n) := by
  obtain ⟨h1, xs, h2, h3⟩ := h
  have hB : Below w.heap.size w (w.drewN n) := below_drewN (Below.refl _ _) n
  exact ⟨h1.trans (Kept.of hB), xs, h2, h3.below hB (Nat.le_refl _)⟩
theorem RowL.drew (h : RowL g hb ho lo len cap W w) : RowL g hb ho lo len cap W w.drew := h.drewN 1
theorem RowL.by {k : Nat} (hd : Drew g k w w') (hg : g < lo) (h : RowL g hb ho lo len cap W w) : RowL g hb ho lo len cap W w' := by
  obtain ⟨h1, xs, h2, h3⟩ := h
  exact ⟨h1.trans (hd.kept.mono fun b hb => .inl hb), xs, h2, h3.only hd.kept hg⟩
theorem RowL.store (h : RowL g hb ho lo len cap W w) {y : Int} (h0 : 0 < len) : RowL g hb ho lo len cap W (w.setCell ⟨hb, ho, none⟩ (.int .i64 y)) := by
  obtain ⟨h1, xs, h2, h3⟩ := h
  subst h2
  exact ⟨h1.set ⟨hb, ho, none⟩ _ (.inr rfl), xs.set 0 y, by simp, h3.setAt h0⟩
theorem RowL.cell0 (h : RowL g hb ho lo len cap W w) (h0 : 0 < len) : (∃ u, w.cell? ⟨hb, ho, none⟩ = some u) ∧ w.frozen? ⟨hb, ho, none⟩ = false := by
  obtain ⟨h1, xs, h2, h3⟩ := h
  refine ⟨?_, (h3.2 hb rfl).2.2 ho⟩
  obtain ⟨b, off, e, -, -, -, hx⟩ := h3.1.open1 (by omega)
  simp only [Option.some.injEq, Addr.mk.injEq] at e
  obtain ⟨rfl, rfl, -⟩ := e
  exact ⟨_, by simpa using hx 0 (by omega) 0 (by omega)⟩
theorem RowL.cell (h : RowL g hb ho lo len cap W w) {X i : Nat} {T : TypeId} {cs : List Value} (hB : Bk W X T cs) (h1 : X ≠ g) (h2 : X ≠ hb) {u : Value} (hu : cs[i]? = some u) : w.cell? ⟨X, i, none⟩ = some u := (hB.kept h.1 (by omega)).cell i hu
end
theorem made_zero (n : Nat) : (madeCells #[Value.int .i64 0] n).toList = List.replicate n (.int .i64 0) := by
  apply List.ext_getElem
  · simp [madeCells]
  · intro i h1 h2
    simp [madeCells, Nat.mod_one]
set_option maxHeartbeats 2000000 in
theorem c_l26Draw (g k : Nat) (w : World) (h : Src w g k) (hk : k ≤ 90000) :
    Calls Tryz.prog 30 #[.pointer (some ⟨g, 0, none⟩)] w (TideR 1 g (k + 50) w) := by
  have hg := h.lt
  obtain ⟨i0, hi, iz0, iz1, iz2⟩ := info_parts info_Int64
  have n0 : w.heap.size ≠ g := by omega
  go_enter Tryz.func30, Tryz.ntmps30
  go_wp2_with fail
  refine (c_l26DrawOk g k _ (by (repeat' (first | (with_reducible assumption) | (with_reducible apply Drew.src; with_reducible assumption) | (with_reducible apply Src.viaB; with_reducible assumption) | (with_reducible refine Src.alloc ?_ _) | (with_reducible refine Src.setFar ?_ ?_ _) | (with_reducible refine Src.drew ?_) | (with_reducible refine Src.drewN ?_ _) | omega | (simp; done) | (simp; omega)))) (by omega)).mono ?_
  rintro e w1 ⟨a, b, v, xs, rfl, hd1, hS1, hx2, hx6⟩
  have hz1 := hd1.size
  simp at hz1
  obtain ⟨adv, cpv, rfl⟩ := hS1.1.form
  have R1 : Bk w1 w.heap.size 26 [.int .i64 0, .int .i64 0, .slice none 0 0] := (by (repeat' (first | (with_reducible exact Bk.new _ _ _) | (with_reducible refine Bk.new1 ?_; first | rfl | (simp; done) | omega) | (with_reducible assumption) | (with_reducible refine Bk.alloc ?_ _) | (with_reducible refine Bk.drew ?_) | (with_reducible refine Bk.drewN ?_ _) | (with_reducible refine Bk.other ?_ ?_ _) | (with_reducible apply Bk.drewBy; with_reducible assumption) | (with_reducible apply Bk.viaB; with_reducible assumption) | omega | (simp; done))))
  have K1 : Kept (fun b => b = g) w w1 := (Kept.of (by (repeat' (first | (with_reducible exact Below.refl _ _) | (with_reducible refine Below.alloc ?_ ?_ _) | (with_reducible refine Below.drew ?_) | (with_reducible refine below_drewN ?_ _) | (with_reducible refine Below.setCell ?_ ?_ _) | (with_reducible refine below_via ‹_› ?_ ?_) | (with_reducible refine below_grow ?_ ?_ _ _) | omega | (simp; done) | (simp; omega))))).trans hd1.kept
  have hS1' : SlO w1 (w.heap.size + 1) 1 encI (.slice adv xs.length cpv) xs := by simpa using hS1
  clear hS1
  go_wp2_with fail
  refine (c_pick g (k + 46) _ _ (by (repeat' (first | (with_reducible assumption) | (with_reducible apply Drew.src; with_reducible assumption) | (with_reducible apply Src.viaB; with_reducible assumption) | (with_reducible refine Src.alloc ?_ _) | (with_reducible refine Src.setFar ?_ ?_ _) | (with_reducible refine Src.drew ?_) | (with_reducible refine Src.drewN ?_ _) | omega | (simp; done) | (simp; omega)))) (by omega) (by omega)).mono ?_
  rintro e w2 ⟨x, rfl, hx, hd2⟩
  have hz2 := hd2.size
  rw [World.size_alloc] at hz2
  have R2 : Bk w2 w.heap.size 26 [.int .i64 0, .int .i64 0, .slice none 0 0] := (by (repeat' (first | (with_reducible exact Bk.new _ _ _) | (with_reducible refine Bk.new1 ?_; first | rfl | (simp; done) | omega) | (with_reducible assumption) | (with_reducible refine Bk.alloc ?_ _) | (with_reducible refine Bk.drew ?_) | (with_reducible refine Bk.drewN ?_ _) | (with_reducible refine Bk.other ?_ ?_ _) | (with_reducible apply Bk.drewBy; with_reducible assumption) | (with_reducible apply Bk.viaB; with_reducible assumption) | omega | (simp; done))))
  have P2 : Bk w2 w1.heap.size 26 [.int .i64 a, .int .i64 b, .slice adv xs.length cpv] := (by (repeat' (first | (with_reducible exact Bk.new _ _ _) | (with_reducible refine Bk.new1 ?_; first | rfl | (simp; done) | omega) | (with_reducible assumption) | (with_reducible refine Bk.alloc ?_ _) | (with_reducible refine Bk.drew ?_) | (with_reducible refine Bk.drewN ?_ _) | (with_reducible refine Bk.other ?_ ?_ _) | (with_reducible apply Bk.drewBy; with_reducible assumption) | (with_reducible apply Bk.viaB; with_reducible assumption) | omega | (simp; done))))
  have K2 : Kept (fun b => b = g) w w2 := K1.trans ((Kept.of (by (repeat' (first | (with_reducible exact Below.refl _ _) | (with_reducible refine Below.alloc ?_ ?_ _) | (with_reducible refine Below.drew ?_) | (with_reducible refine below_drewN ?_ _) | (with_reducible refine Below.setCell ?_ ?_ _) | (with_reducible refine below_via ‹_› ?_ ?_) | (with_reducible refine below_grow ?_ ?_ _ _) | omega | (simp; done) | (simp; omega))))).trans hd2.kept)
  have S2 : SlO w2 (w.heap.size + 1) 1 encI (.slice adv xs.length cpv) xs := (hS1'.below (Below.alloc (Below.refl _ _) (Nat.le_refl _) _) (Nat.le_refl _)).only hd2.kept (by omega)
  have hnP : (Value.slice adv xs.length cpv).ownBlock ≠ some w1.heap.size := fun e => by obtain ⟨q1, -, -⟩ := hS1'.2 _ e; omega
  have hnR : (Value.slice adv xs.length cpv).ownBlock ≠ some w.heap.size := fun e => by obtain ⟨-, q1, -⟩ := hS1'.2 _ e; omega
  have Q2 := hd2.src
  clear R1 K1 hS1' hd1 hd2
  have hc : x = 0 ∨ x = 1 ∨ x = 2 ∨ x = 3 ∨ x = 4 ∨ 5 ≤ x := by omega
  have hx0 := hx.1
  clear hx
  rcases hc with rfl | rfl | rfl | rfl | rfl | hx5
  · go_wp2_with fail
    refine (c_among g (k + 48) _ _ _ (by (repeat' (first | (with_reducible assumption) | (with_reducible apply Drew.src; with_reducible assumption) | (with_reducible apply Src.viaB; with_reducible assumption) | (with_reducible refine Src.alloc ?_ _) | (with_reducible refine Src.setFar ?_ ?_ _) | (with_reducible refine Src.drew ?_) | (with_reducible refine Src.drewN ?_ _) | omega | (simp; done) | (simp; omega)))) (by omega) (by first | exact (lit_at (enc := encI) (fun _ => rfl) [59, 1000, 1001] rfl (by first | rfl | (simp; done)) (by first | omega | (simp; omega)) rfl rfl (by simp) (by simp)) | exact Lit.drew (lit_at (enc := encI) (fun _ => rfl) [59, 1000, 1001] rfl (by first | rfl | (simp; done)) (by first | omega | (simp; omega)) rfl rfl (by simp) (by simp)) | fail)).mono ?_
    rintro e w3 ⟨y, rfl, hy, hd3⟩
    have hz3 := hd3.size
    rw [World.size_alloc] at hz3
    have R3 : Bk w3 w.heap.size 26 [.int .i64 0, .int .i64 0, .slice none 0 0] := (by (repeat' (first | (with_reducible exact Bk.new _ _ _) | (with_reducible refine Bk.new1 ?_; first | rfl | (simp; done) | omega) | (with_reducible assumption) | (with_reducible refine Bk.alloc ?_ _) | (with_reducible refine Bk.drew ?_) | (with_reducible refine Bk.drewN ?_ _) | (with_reducible refine Bk.other ?_ ?_ _) | (with_reducible apply Bk.drewBy; with_reducible assumption) | (with_reducible apply Bk.viaB; with_reducible assumption) | omega | (simp; done))))
    have P3 : Bk w3 w1.heap.size 26 [.int .i64 a, .int .i64 b, .slice adv xs.length cpv] := (by (repeat' (first | (with_reducible exact Bk.new _ _ _) | (with_reducible refine Bk.new1 ?_; first | rfl | (simp; done) | omega) | (with_reducible assumption) | (with_reducible refine Bk.alloc ?_ _) | (with_reducible refine Bk.drew ?_) | (with_reducible refine Bk.drewN ?_ _) | (with_reducible refine Bk.other ?_ ?_ _) | (with_reducible apply Bk.drewBy; with_reducible assumption) | (with_reducible apply Bk.viaB; with_reducible assumption) | omega | (simp; done))))
    have K3 : Kept (fun b => b = g) w w3 := K2.trans ((Kept.of (by (repeat' (first | (with_reducible exact Below.refl _ _) | (with_reducible refine Below.alloc ?_ ?_ _) | (with_reducible refine Below.drew ?_) | (with_reducible refine below_drewN ?_ _) | (with_reducible refine Below.setCell ?_ ?_ _) | (with_reducible refine below_via ‹_› ?_ ?_) | (with_reducible refine below_grow ?_ ?_ _ _) | omega | (simp; done) | (simp; omega))))).trans hd3.kept)
    have S3 : SlO w3 (w.heap.size + 1) 1 encI (.slice adv xs.length cpv) xs := (S2.below (Below.alloc (Below.refl _ _) (Nat.le_refl _) _) (Nat.le_refl _)).only hd3.kept (by omega)
    have Q3 := hd3.src
    clear R2 P2 K2 S2 Q2 hd3
    clear hy
    have p0 := P3.cell 0 rfl
    have p1 := P3.cell 1 rfl
    have p2 := P3.cell 2 rfl
    have pf := P3.fr
    have r0 := R3.cell 0 rfl
    have r1 := R3.cell 1 rfl
    have r2 := R3.cell 2 rfl
    have rf := R3.fr
    have hPl := P3.lt
    have HS := hid S3
    have HK := hid K3
    have HQ := hid (Q3.mono (k' := k + 50) (by omega))
    clear P3 R3 S3 K3 Q3
    go_wp2_with fail
    refine bodyPost_ret (v := .agg #[.int .i64 a, .int .i64 y, (.slice adv xs.length cpv)]) (by simp [results, Tryz.results30, go_sem, *]) rfl ⟨_, _, _, xs, rfl, Drew.mk' (by repeat' (first | exact HK.out | refine Kept.setNew ?_ ?_ _ | omega)) (by repeat' (first | exact HQ.out | refine Src.setFar ?_ ?_ _ | omega)) (k' := k + 50) (by omega), SlO.mono (lo := w.heap.size + 1) (by repeat' (first | exact HS.out | refine SlO.far ?_ ?_ _ | assumption)) (by omega), by first | omega | (simp; omega), by first | omega | (simp; omega)⟩
  · obtain ⟨hb, ho, rfl, hcc, hmc, hbl, hxc⟩ := S2.1.open1 (by omega)
    have hxI : (0 : Int) < xs.length := by omega
    have hx0' : 0 < xs.length := by omega
    have hlo := (S2.2 hb rfl).2.1
    have hPb : w1.heap.size ≠ hb := fun e => hnP (by simp [Value.ownBlock, e])
    have hRb : w.heap.size ≠ hb := fun e => hnR (by simp [Value.ownBlock, e])
    have HS2 := hid S2
    have k2 : ∀ w', RowL g hb ho (w.heap.size + 1) xs.length cpv w2 w' → w'.cell? ⟨w1.heap.size, 2, none⟩ = some (.slice (some ⟨hb, ho, none⟩) xs.length cpv) := fun w' h => h.cell P2 (by omega) hPb rfl
    have HP2 := hid P2
    have HR2 := hid R2
    clear P2 R2 S2 hxc
    go_wp2_with fail
    go_region_held3 (fun w' => RowL g hb ho (w.heap.size + 1) xs.length cpv w2 w') ((repeat' (first | (with_reducible assumption) | (with_reducible refine RowL.alloc ?_ _) | (with_reducible refine RowL.drew ?_) | (with_reducible refine RowL.drewN ?_ _) | (with_reducible refine RowL.store ?_ ?_) | (with_reducible apply RowL.by; with_reducible assumption) | (exact RowL.refl HS2.out rfl) | omega))) (first | (go_at_call 67; refine (c_among g (k + 48) _ _ _ (by (repeat' (first | (with_reducible assumption) | (with_reducible apply Drew.src; with_reducible assumption) | (with_reducible apply Src.viaB; with_reducible assumption) | (with_reducible refine Src.alloc ?_ _) | (with_reducible refine Src.setFar ?_ ?_ _) | (with_reducible refine Src.drew ?_) | (with_reducible refine Src.drewN ?_ _) | omega | (simp; done) | (simp; omega)))) (by omega) (by first | exact (lit_at (enc := encI) (fun _ => rfl) [-100, -101, 1500, 1501] rfl (by first | rfl | (simp; done)) (by first | omega | (simp; omega)) rfl rfl (by simp) (by simp)) | exact Lit.drew (lit_at (enc := encI) (fun _ => rfl) [-100, -101, 1500, 1501] rfl (by first | rfl | (simp; done)) (by first | omega | (simp; omega)) rfl rfl (by simp) (by simp)) | fail)).mono ?_; rintro e w5 ⟨u, rfl, hu, hd5⟩; clear hu; have HO : RowL g hb ho (w.heap.size + 1) xs.length cpv w2 w5 := (by (repeat' (first | (with_reducible assumption) | (with_reducible refine RowL.alloc ?_ _) | (with_reducible refine RowL.drew ?_) | (with_reducible refine RowL.drewN ?_ _) | (with_reducible refine RowL.store ?_ ?_) | (with_reducible apply RowL.by; with_reducible assumption) | (exact RowL.refl HS2.out rfl) | omega))); obtain ⟨⟨u6, bq⟩, bq2⟩ := HO.cell0 hx0') | fail)
    have HO6 : RowL g hb ho (w.heap.size + 1) xs.length cpv w2 (w5.setCell ⟨hb, ho, none⟩ (.int .i64 u)) := HO.store hx0'
    have Q6 : Src (w5.setCell ⟨hb, ho, none⟩ (.int .i64 u)) g (k + 50) := hd5.src.setFar (by omega) _
    obtain ⟨V, hV⟩ : ∃ z, z = w5.setCell ⟨hb, ho, none⟩ (.int .i64 u) := ⟨_, rfl⟩
    rw [← hV] at HO6 Q6 ⊢
    clear hV bq bq2 HO hd5 k2
    obtain ⟨hk6, ys, hyl, S6⟩ := HO6
    have P6 := Bk.kept HP2.out hk6 (by omega)
    have R6 := Bk.kept HR2.out hk6 (by omega)
    have K6 : Kept (fun b => b = g) w V := ⟨hk6.os.trans K2.os, hk6.tape.trans K2.tape, hk6.output.trans K2.output, Nat.le_trans K2.size hk6.size, fun q hq hn => (hk6.block q (Nat.lt_of_lt_of_le hq K2.size) (by omega)).trans (K2.block q hq hn)⟩
    have HY := hid hyl
    clear hk6 K2 Q2 hyl
    have p0 := P6.cell 0 rfl
    have p1 := P6.cell 1 rfl
    have p2 := P6.cell 2 rfl
    have pf := P6.fr
    have r0 := R6.cell 0 rfl
    have r1 := R6.cell 1 rfl
    have r2 := R6.cell 2 rfl
    have rf := R6.fr
    have hPl := P6.lt
    have HS := hid S6
    have HK := hid K6
    have HQ := hid (Q6.mono (k' := k + 50) (by omega))
    clear P6 R6 S6 K6 Q6
    go_wp2_with fail
    refine bodyPost_ret (v := .agg #[.int .i64 a, .int .i64 b, (.slice (some ⟨hb, ho, none⟩) xs.length cpv)]) (by simp [results, Tryz.results30, go_sem, *]) rfl ⟨_, _, _, ys, rfl, Drew.mk' (by repeat' (first | exact HK.out | refine Kept.setNew ?_ ?_ _ | omega)) (by repeat' (first | exact HQ.out | refine Src.setFar ?_ ?_ _ | omega)) (k' := k + 50) (by omega), SlO.mono (lo := w.heap.size + 1) (by repeat' (first | exact HS.out | refine SlO.far ?_ ?_ _ | assumption)) (by omega), by have := HY.out; omega, by have := HY.out; omega⟩
  · obtain ⟨hb, ho, rfl, hcc, hmc, hbl, hxc⟩ := S2.1.open1 (by omega)
    have S3 := S2.pre (i := 1) (by omega)
    have hcI : (1 : Int) ≤ cpv := by omega
    have h1c : 1 ≤ cpv := by omega
    have hnP3 : (Value.slice (some ⟨hb, ho, none⟩) 1 cpv).ownBlock ≠ some w1.heap.size := hnP
    have hnR3 : (Value.slice (some ⟨hb, ho, none⟩) 1 cpv).ownBlock ≠ some w.heap.size := hnR
    clear S2 hxc
    have p0 := P2.cell 0 rfl
    have p1 := P2.cell 1 rfl
    have p2 := P2.cell 2 rfl
    have pf := P2.fr
    have r0 := R2.cell 0 rfl
    have r1 := R2.cell 1 rfl
    have r2 := R2.cell 2 rfl
    have rf := R2.fr
    have hPl := P2.lt
    have HS := hid S3
    have HK := hid K2
    have HQ := hid (Q2.mono (k' := k + 50) (by omega))
    clear P2 R2 S3 K2 Q2
    go_wp2_with fail
    refine bodyPost_ret (v := .agg #[.int .i64 a, .int .i64 b, (.slice (some ⟨hb, ho, none⟩) 1 cpv)]) (by simp [results, Tryz.results30, go_sem, *]) rfl ⟨_, _, _, (xs.take 1), rfl, Drew.mk' (by repeat' (first | exact HK.out | refine Kept.setNew ?_ ?_ _ | omega)) (by repeat' (first | exact HQ.out | refine Src.setFar ?_ ?_ _ | omega)) (k' := k + 50) (by omega), SlO.mono (lo := w.heap.size + 1) (by repeat' (first | exact HS.out | refine SlO.far ?_ ?_ _ | assumption)) (by omega), by first | omega | (simp; omega), by first | omega | (simp; omega)⟩
  · go_wp2_with fail
    refine (c_among g (k + 48) _ _ _ (by (repeat' (first | (with_reducible assumption) | (with_reducible apply Drew.src; with_reducible assumption) | (with_reducible apply Src.viaB; with_reducible assumption) | (with_reducible refine Src.alloc ?_ _) | (with_reducible refine Src.setFar ?_ ?_ _) | (with_reducible refine Src.drew ?_) | (with_reducible refine Src.drewN ?_ _) | omega | (simp; done) | (simp; omega)))) (by omega) (by first | exact (lit_at (enc := encI) (fun _ => rfl) [-1, 143999999, 143999900] rfl (by first | rfl | (simp; done)) (by first | omega | (simp; omega)) rfl rfl (by simp) (by simp)) | exact Lit.drew (lit_at (enc := encI) (fun _ => rfl) [-1, 143999999, 143999900] rfl (by first | rfl | (simp; done)) (by first | omega | (simp; omega)) rfl rfl (by simp) (by simp)) | fail)).mono ?_
    rintro e w3 ⟨y, rfl, hy, hd3⟩
    have hz3 := hd3.size
    rw [World.size_alloc] at hz3
    have R3 : Bk w3 w.heap.size 26 [.int .i64 0, .int .i64 0, .slice none 0 0] := (by (repeat' (first | (with_reducible exact Bk.new _ _ _) | (with_reducible refine Bk.new1 ?_; first | rfl | (simp; done) | omega) | (with_reducible assumption) | (with_reducible refine Bk.alloc ?_ _) | (with_reducible refine Bk.drew ?_) | (with_reducible refine Bk.drewN ?_ _) | (with_reducible refine Bk.other ?_ ?_ _) | (with_reducible apply Bk.drewBy; with_reducible assumption) | (with_reducible apply Bk.viaB; with_reducible assumption) | omega | (simp; done))))
    have P3 : Bk w3 w1.heap.size 26 [.int .i64 a, .int .i64 b, .slice adv xs.length cpv] := (by (repeat' (first | (with_reducible exact Bk.new _ _ _) | (with_reducible refine Bk.new1 ?_; first | rfl | (simp; done) | omega) | (with_reducible assumption) | (with_reducible refine Bk.alloc ?_ _) | (with_reducible refine Bk.drew ?_) | (with_reducible refine Bk.drewN ?_ _) | (with_reducible refine Bk.other ?_ ?_ _) | (with_reducible apply Bk.drewBy; with_reducible assumption) | (with_reducible apply Bk.viaB; with_reducible assumption) | omega | (simp; done))))
    have K3 : Kept (fun b => b = g) w w3 := K2.trans ((Kept.of (by (repeat' (first | (with_reducible exact Below.refl _ _) | (with_reducible refine Below.alloc ?_ ?_ _) | (with_reducible refine Below.drew ?_) | (with_reducible refine below_drewN ?_ _) | (with_reducible refine Below.setCell ?_ ?_ _) | (with_reducible refine below_via ‹_› ?_ ?_) | (with_reducible refine below_grow ?_ ?_ _ _) | omega | (simp; done) | (simp; omega))))).trans hd3.kept)
    have S3 : SlO w3 (w.heap.size + 1) 1 encI (.slice adv xs.length cpv) xs := (S2.below (Below.alloc (Below.refl _ _) (Nat.le_refl _) _) (Nat.le_refl _)).only hd3.kept (by omega)
    have Q3 := hd3.src
    clear R2 P2 K2 S2 Q2 hd3
    clear hy
    have p0 := P3.cell 0 rfl
    have p1 := P3.cell 1 rfl
    have p2 := P3.cell 2 rfl
    have pf := P3.fr
    have r0 := R3.cell 0 rfl
    have r1 := R3.cell 1 rfl
    have r2 := R3.cell 2 rfl
    have rf := R3.fr
    have hPl := P3.lt
    have HS := hid S3
    have HK := hid K3
    have HQ := hid (Q3.mono (k' := k + 50) (by omega))
    clear P3 R3 S3 K3 Q3
    go_wp2_with fail
    refine bodyPost_ret (v := .agg #[.int .i64 y, .int .i64 b, (.slice adv xs.length cpv)]) (by simp [results, Tryz.results30, go_sem, *]) rfl ⟨_, _, _, xs, rfl, Drew.mk' (by repeat' (first | exact HK.out | refine Kept.setNew ?_ ?_ _ | omega)) (by repeat' (first | exact HQ.out | refine Src.setFar ?_ ?_ _ | omega)) (k' := k + 50) (by omega), SlO.mono (lo := w.heap.size + 1) (by repeat' (first | exact HS.out | refine SlO.far ?_ ?_ _ | assumption)) (by omega), by first | omega | (simp; omega), by first | omega | (simp; omega)⟩
  · go_wp2_with fail
    refine (c_among g (k + 48) _ _ _ (by (repeat' (first | (with_reducible assumption) | (with_reducible apply Drew.src; with_reducible assumption) | (with_reducible apply Src.viaB; with_reducible assumption) | (with_reducible refine Src.alloc ?_ _) | (with_reducible refine Src.setFar ?_ ?_ _) | (with_reducible refine Src.drew ?_) | (with_reducible refine Src.drewN ?_ _) | omega | (simp; done) | (simp; omega)))) (by omega) (by first | exact (lit_at (enc := encI) (fun _ => rfl) [64, 65] rfl (by first | rfl | (simp; done)) (by first | omega | (simp; omega)) rfl rfl (by simp) (by simp)) | exact Lit.drew (lit_at (enc := encI) (fun _ => rfl) [64, 65] rfl (by first | rfl | (simp; done)) (by first | omega | (simp; omega)) rfl rfl (by simp) (by simp)) | fail)).mono ?_
    rintro e w3 ⟨y, rfl, hy, hd3⟩
    have hz3 := hd3.size
    rw [World.size_alloc] at hz3
    have R3 : Bk w3 w.heap.size 26 [.int .i64 0, .int .i64 0, .slice none 0 0] := (by (repeat' (first | (with_reducible exact Bk.new _ _ _) | (with_reducible refine Bk.new1 ?_; first | rfl | (simp; done) | omega) | (with_reducible assumption) | (with_reducible refine Bk.alloc ?_ _) | (with_reducible refine Bk.drew ?_) | (with_reducible refine Bk.drewN ?_ _) | (with_reducible refine Bk.other ?_ ?_ _) | (with_reducible apply Bk.drewBy; with_reducible assumption) | (with_reducible apply Bk.viaB; with_reducible assumption) | omega | (simp; done))))
    have P3 : Bk w3 w1.heap.size 26 [.int .i64 a, .int .i64 b, .slice adv xs.length cpv] := (by (repeat' (first | (with_reducible exact Bk.new _ _ _) | (with_reducible refine Bk.new1 ?_; first | rfl | (simp; done) | omega) | (with_reducible assumption) | (with_reducible refine Bk.alloc ?_ _) | (with_reducible refine Bk.drew ?_) | (with_reducible refine Bk.drewN ?_ _) | (with_reducible refine Bk.other ?_ ?_ _) | (with_reducible apply Bk.drewBy; with_reducible assumption) | (with_reducible apply Bk.viaB; with_reducible assumption) | omega | (simp; done))))
    have K3 : Kept (fun b => b = g) w w3 := K2.trans ((Kept.of (by (repeat' (first | (with_reducible exact Below.refl _ _) | (with_reducible refine Below.alloc ?_ ?_ _) | (with_reducible refine Below.drew ?_) | (with_reducible refine below_drewN ?_ _) | (with_reducible refine Below.setCell ?_ ?_ _) | (with_reducible refine below_via ‹_› ?_ ?_) | (with_reducible refine below_grow ?_ ?_ _ _) | omega | (simp; done) | (simp; omega))))).trans hd3.kept)
    have S3 : SlO w3 (w.heap.size + 1) 1 encI (.slice adv xs.length cpv) xs := (S2.below (Below.alloc (Below.refl _ _) (Nat.le_refl _) _) (Nat.le_refl _)).only hd3.kept (by omega)
    have Q3 := hd3.src
    clear R2 P2 K2 S2 Q2 hd3
    have hy2 : ∃ n : Nat, y = n ∧ (n = 64 ∨ n = 65) := by
      simp at hy
      rcases hy with rfl | rfl
      · exact ⟨64, rfl, .inl rfl⟩
      · exact ⟨65, rfl, .inr rfl⟩
    obtain ⟨n, rfl, hn⟩ := hy2
    have hn1 : 1 ≤ n := by omega
    have hn2 : n ≤ 65 := by omega
    clear hy
    go_wp2_with (at_make; refine (wpList_make_full _ rfl _ _ 24 rfl (w.heap.size + 1) 2 i0 _ 1 Tryz.underlying24 hi iz0 iz1 _ _ _ _ n rfl rfl rfl rfl (by rw [iz2]; omega) (by unfold maxLen; omega) (by omega) ?_))
    intro w4 hown hgr
    have hb4 : Below w3.heap.size w3 w4 := (Below.refl _ _).grown hgr (Nat.le_refl _) (fun k hk => by cases hk)
    have hz4 := hb4.size
    have S4 : SlO w4 (w.heap.size + 1) 1 encI (.slice (some ⟨w3.heap.size, 0, none⟩) n n) (List.replicate n (0 : Int)) := by
      refine SlO.of_owns (e := 2) (len := n) (fun _ => rfl) ?_ (by simp)
      rw [flat_encI, List.map_replicate, ← made_zero]; exact hown
    have P4 := P3.below hb4
    have R4 := R3.below hb4
    have K4 := K3.trans (Kept.of hb4)
    have Q4 := Q3.below hb4
    have hnP4 : (Value.slice (some ⟨w3.heap.size, 0, none⟩) n n).ownBlock ≠ some w1.heap.size := fun e => by simp [Value.ownBlock] at e; omega
    have hnR4 : (Value.slice (some ⟨w3.heap.size, 0, none⟩) n n).ownBlock ≠ some w.heap.size := fun e => by simp [Value.ownBlock] at e; omega
    clear hown hgr P3 R3 S3 K3 Q3 hb4
    have p0 := P4.cell 0 rfl
    have p1 := P4.cell 1 rfl
    have p2 := P4.cell 2 rfl
    have pf := P4.fr
    have r0 := R4.cell 0 rfl
    have r1 := R4.cell 1 rfl
    have r2 := R4.cell 2 rfl
    have rf := R4.fr
    have hPl := P4.lt
    have HS := hid S4
    have HK := hid K4
    have HQ := hid (Q4.mono (k' := k + 50) (by omega))
    have HN := hid hn
    clear P4 R4 S4 K4 Q4 hn
    go_wp2_with fail
    refine bodyPost_ret (v := .agg #[.int .i64 a, .int .i64 b, .slice (some ⟨w3.heap.size, 0, none⟩) n n]) (by simp [results, Tryz.results30, go_sem, *]) rfl ⟨_, _, _, List.replicate n 0, rfl, Drew.mk' (by repeat' (first | exact HK.out | refine Kept.setNew ?_ ?_ _ | omega)) (by repeat' (first | exact HQ.out | refine Src.setFar ?_ ?_ _ | omega)) (k' := k + 50) (by omega), SlO.mono (lo := w.heap.size + 1) (by repeat' (first | exact HS.out | refine SlO.far ?_ ?_ _ | assumption)) (by omega), by simp; omega, by simp; omega⟩
  · have e0 : (x == 0) = false := by simp; omega
    have e1 : (x == 1) = false := by simp; omega
    have e2 : (x == 2) = false := by simp; omega
    have e3 : (x == 3) = false := by simp; omega
    have e4 : (x == 4) = false := by simp; omega
    have p0 := P2.cell 0 rfl
    have p1 := P2.cell 1 rfl
    have p2 := P2.cell 2 rfl
    have pf := P2.fr
    have r0 := R2.cell 0 rfl
    have r1 := R2.cell 1 rfl
    have r2 := R2.cell 2 rfl
    have rf := R2.fr
    have hPl := P2.lt
    have HS := hid S2
    have HK := hid K2
    have HQ := hid (Q2.mono (k' := k + 50) (by omega))
    clear P2 R2 S2 K2 Q2
    go_wp2_with fail
    refine bodyPost_ret (v := .agg #[.int .i64 a, .int .i64 b, (.slice adv xs.length cpv)]) (by simp [results, Tryz.results30, go_sem, *]) rfl ⟨_, _, _, xs, rfl, Drew.mk' (by repeat' (first | exact HK.out | refine Kept.setNew ?_ ?_ _ | omega)) (by repeat' (first | exact HQ.out | refine Src.setFar ?_ ?_ _ | omega)) (k' := k + 50) (by omega), SlO.mono (lo := w.heap.size + 1) (by repeat' (first | exact HS.out | refine SlO.far ?_ ?_ _ | assumption)) (by omega), by first | omega | (simp; omega), by first | omega | (simp; omega)⟩
set_option maxHeartbeats 2000000 in
theorem c_l26DrawTime (g k P : Nat) (a b : Int) (v : Value) (xs : List Int) (w : World) (h : Src w g k) (hk : k ≤ 90000) (hP : Bk w P 26 [.int .i64 a, .int .i64 b, v]) (hPg : P ≠ g) (hS : SlA w 0 1 encI v xs) (hv : ∀ b', v.ownBlock = some b' → b' ≠ g) :
    Calls Tryz.prog 31 #[.pointer (some ⟨g, 0, none⟩), .pointer (some ⟨P, 0, none⟩)] w (AnyN g (k + 4) w) := by
  have hok := c_l26Ok P 0 a b v xs w hS hP.lt (hP.cell 0 rfl) (hP.cell 1 rfl) (hP.cell 2 rfl)
  cases hq : tideB a b xs
  · rw [hq] at hok
    clear hq
    go_enter Tryz.func31, Tryz.ntmps31
    go_wp2_with fail
    refine hok.mono ?_
    rintro e w1 ⟨rfl, hb1⟩
    go_wp2_with fail
    refine (c_l20DrawTime g k _ (h.below hb1) (by omega)).mono ?_
    rintro e w2 ⟨x, rfl, hd2⟩
    go_wp2_with fail
    go_ret
    exact ⟨x, rfl, Drew.after hb1 hd2⟩
  · obtain ⟨-, e1, e2, e3, e4, e5, e6, e7, e8⟩ := tideB_true hq
    rw [hq] at hok
    clear hq
    go_enter Tryz.func31, Tryz.ntmps31
    go_wp2_with fail
    refine hok.mono ?_
    rintro e w1 ⟨rfl, hb1⟩
    have P1 := hP.below hb1
    have S1 := hS.below hb1 (Nat.le_refl _)
    have Q1 := h.below hb1
    have HB1 := hid hb1
    clear hP hS h hb1 hok
    go_wp2_with fail
    refine (c_one g k _ _ Q1 (by omega) (by omega)).mono ?_
    rintro e w2 ⟨bb, rfl, hd2⟩
    have P2 := Bk.drewBy hd2 hPg P1
    have S2 : SlA w2 0 1 encI v xs := S1.kept hd2.kept fun _ => hv
    have Q2 := hd2.src
    have HK2 := hid (Kept.trans (Kept.of HB1.out) hd2.kept)
    have hg2 := Q2.lt
    have hP2 := P2.lt
    clear P1 S1 Q1 hd2 HB1
    have k0 : ∀ w', Only g w2 w' → w'.cell? ⟨P, 0, none⟩ = some (.int .i64 a) := fun w' h => h.cell P2 hPg rfl
    have k1 : ∀ w', Only g w2 w' → w'.cell? ⟨P, 1, none⟩ = some (.int .i64 b) := fun w' h => h.cell P2 hPg rfl
    have ce : ∀ w', Only g w2 w' → Calls Tryz.prog 70 #[.pointer (some ⟨P, 0, none⟩)] w' fun e w'' => e = .returned (.int .i64 (tideEnd a b xs)) ∧ Below w'.heap.size w' w'' := fun w' ho =>
      c_l26End P 0 a b v xs w' (S2.kept ho.out fun _ => hv) (by omega) (by omega) (by omega) (by omega) (by omega) (by omega) (ho.cell P2 hPg rfl) (ho.cell P2 hPg rfl) (ho.cell P2 hPg rfl)
    have HP2 := hid P2
    have HS2 := hid S2
    clear P2 S2
    generalize tideEnd a b xs = E at *
    have w1a : IntKind.i64.wrap (a - 1) = a - 1 := IntWalk.i64_in _ (by omega)
    have w2a : IntKind.i64.wrap (E + 1) = E + 1 := IntWalk.i64_in _ (by omega)
    have w3a : IntKind.i64.wrap (a + b) = a + b := IntWalk.i64_in _ (by omega)
    have w4a : IntKind.i64.wrap (E - a) = E - a := IntWalk.i64_in _ (by omega)
    have w5a : IntKind.i64.wrap (E - a + 1) = E - a + 1 := IntWalk.i64_in _ (by omega)
    cases bb
    · go_wp2_with fail
      go_region_held3 (fun w' => Only g w2 w') ((refine only_of ?_; (repeat' (first | (with_reducible exact Kept.refl _ _) | (with_reducible refine Kept.alloc' ?_ _) | (with_reducible refine Kept.setNew ?_ ?_ _) | (with_reducible refine Kept.drew ?_) | (with_reducible refine Kept.drewN ?_ _) | (with_reducible apply Kept.viaD; with_reducible assumption) | (with_reducible apply Kept.viaB; with_reducible assumption) | (with_reducible apply Kept.viaO; with_reducible assumption) | omega | (simp; done) | (simp; omega))))) (first | (go_at_call 70; refine (ce _ (by refine only_of ?_; (repeat' (first | (with_reducible exact Kept.refl _ _) | (with_reducible refine Kept.alloc' ?_ _) | (with_reducible refine Kept.setNew ?_ ?_ _) | (with_reducible refine Kept.drew ?_) | (with_reducible refine Kept.drewN ?_ _) | (with_reducible apply Kept.viaD; with_reducible assumption) | (with_reducible apply Kept.viaB; with_reducible assumption) | (with_reducible apply Kept.viaO; with_reducible assumption) | omega | (simp; done) | (simp; omega))))).mono ?_; rintro e w4 ⟨rfl, hb4⟩; have hz4 := hb4.size; (try simp at hz4)) | (go_at_call 46; refine (c_pick g (k + 2) _ _ (by (repeat' (first | (with_reducible assumption) | (with_reducible apply Drew.src; with_reducible assumption) | (with_reducible apply Src.viaB; with_reducible assumption) | (with_reducible refine Src.alloc ?_ _) | (with_reducible refine Src.setFar ?_ ?_ _) | (with_reducible refine Src.drew ?_) | (with_reducible refine Src.drewN ?_ _) | omega | (simp; done) | (simp; omega)))) (by omega) (by omega)).mono ?_; rintro e w5 ⟨u, rfl, -, hd5⟩) | fail)
      have HK5 : Kept (fun b => b = g) w2 w5 := by (repeat' (first | (with_reducible exact Kept.refl _ _) | (with_reducible refine Kept.alloc' ?_ _) | (with_reducible refine Kept.setNew ?_ ?_ _) | (with_reducible refine Kept.drew ?_) | (with_reducible refine Kept.drewN ?_ _) | (with_reducible apply Kept.viaD; with_reducible assumption) | (with_reducible apply Kept.viaB; with_reducible assumption) | (with_reducible apply Kept.viaO; with_reducible assumption) | omega | (simp; done) | (simp; omega)))
      have Q5 := hd5.src
      go_wp2_with fail
      go_ret
      exact ⟨_, rfl, Drew.mk' (HK2.out.trans HK5) Q5 (by omega)⟩
    · go_wp2_with fail
      go_region_held3 (fun w' => Only g w2 w') ((refine only_of ?_; (repeat' (first | (with_reducible exact Kept.refl _ _) | (with_reducible refine Kept.alloc' ?_ _) | (with_reducible refine Kept.setNew ?_ ?_ _) | (with_reducible refine Kept.drew ?_) | (with_reducible refine Kept.drewN ?_ _) | (with_reducible apply Kept.viaD; with_reducible assumption) | (with_reducible apply Kept.viaB; with_reducible assumption) | (with_reducible apply Kept.viaO; with_reducible assumption) | omega | (simp; done) | (simp; omega))))) (first | (go_at_call 70; refine (ce _ (by refine only_of ?_; (repeat' (first | (with_reducible exact Kept.refl _ _) | (with_reducible refine Kept.alloc' ?_ _) | (with_reducible refine Kept.setNew ?_ ?_ _) | (with_reducible refine Kept.drew ?_) | (with_reducible refine Kept.drewN ?_ _) | (with_reducible apply Kept.viaD; with_reducible assumption) | (with_reducible apply Kept.viaB; with_reducible assumption) | (with_reducible apply Kept.viaO; with_reducible assumption) | omega | (simp; done) | (simp; omega))))).mono ?_; rintro e w4 ⟨rfl, hb4⟩; have hz4 := hb4.size; (try simp at hz4)) | (go_at_call 67; refine (c_among g (k + 2) _ _ _ (by (repeat' (first | (with_reducible assumption) | (with_reducible apply Drew.src; with_reducible assumption) | (with_reducible apply Src.viaB; with_reducible assumption) | (with_reducible refine Src.alloc ?_ _) | (with_reducible refine Src.setFar ?_ ?_ _) | (with_reducible refine Src.drew ?_) | (with_reducible refine Src.drewN ?_ _) | omega | (simp; done) | (simp; omega)))) (by omega) (by first | exact (lit_at (enc := encI) (fun _ => rfl) [a - 1, a, E, E + 1, a + b] rfl (by first | rfl | (simp; done)) (by first | omega | (simp; omega)) rfl rfl (by simp) (by simp)) | exact Lit.drew (lit_at (enc := encI) (fun _ => rfl) [a - 1, a, E, E + 1, a + b] rfl (by first | rfl | (simp; done)) (by first | omega | (simp; omega)) rfl rfl (by simp) (by simp)) | fail)).mono ?_; rintro e w5 ⟨u, rfl, -, hd5⟩) | fail)
      have HK5 : Kept (fun b => b = g) w2 w5 := by (repeat' (first | (with_reducible exact Kept.refl _ _) | (with_reducible refine Kept.alloc' ?_ _) | (with_reducible refine Kept.setNew ?_ ?_ _) | (with_reducible refine Kept.drew ?_) | (with_reducible refine Kept.drewN ?_ _) | (with_reducible apply Kept.viaD; with_reducible assumption) | (with_reducible apply Kept.viaB; with_reducible assumption) | (with_reducible apply Kept.viaO; with_reducible assumption) | omega | (simp; done) | (simp; omega)))
      have Q5 := hd5.src
      go_wp2_with fail
      go_ret
      exact ⟨_, rfl, Drew.mk' (HK2.out.trans HK5) Q5 (by omega)⟩
/-- a tide and two times that were drawn -/
def SpanR (g k : Nat) (w : World) (e : Ending) (w' : World) : Prop := ∃ (a b : Int) (v : Value) (xs : List Int) (t u : Int), e = .returned (.tuple #[.agg #[.int .i64 a, .int .i64 b, v], .int .i64 t, .int .i64 u]) ∧ Drew g k w w' ∧ SlO w' w.heap.size 1 encI v xs ∧ 1 ≤ xs.length ∧ xs.length ≤ 65
/-- what the law on the windows draws -/
def WinsR (w : World) (e : Ending) (w' : World) : Prop := ∃ (a b : Int) (v : Value) (xs : List Int) (d nd t u : Int), e = .returned (.tuple #[.agg #[.int .i64 a, .int .i64 b, v], .int .i64 d, .int .i64 nd, .int .i64 t, .int .i64 u]) ∧ Below w.heap.size w w' ∧ SlA w' 0 1 encI v xs ∧ xs.length ≤ 65
end Go.Proofs.YtabbhlehbhadiaaGreatDoor
