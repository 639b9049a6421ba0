/- The reference's draws of sectors: no panic, and nothing but the source turns. Printed by wip/mkdraws.py. -/
import Derived.Test.YtabbhlehbhadiaaGreatDoorDraw0
import Derived.Test.YtabbhlehbhadiaaGreatDoorTSector
import Derived.Deep.RegionHeld3
namespace Go.Proofs.YtabbhlehbhadiaaGreatDoor
open Go.RowKit Go.Sort
set_option linter.unusedVariables false
set_option maxRecDepth 100000

def smallS (x : SectorD) : Prop := (-1000 ≤ x.fFrom ∧ x.fFrom ≤ 1000) ∧ (-1000 ≤ x.fTo ∧ x.fTo ≤ 1000) ∧ x.fColor.size ≤ 10
theorem smallS.ok {x : SectorD} (h : smallS x) : okSector x := by
  obtain ⟨h1, h2, h3⟩ := h
  refine ⟨by unfold I64; omega, by unfold I64; omega, by unfold maxLen; omega⟩
theorem one_encS (y : SectorD) : ∀ u ∈ encSector y, u.oneCell' = true := by
  intro u hu
  simp only [encSector, List.mem_cons, List.not_mem_nil, or_false] at hu
  rcases hu with rfl | rfl | rfl <;> rfl
theorem snocS {xs : List SectorD} {y : SectorD} (h : ∀ x ∈ xs, smallS x) (hy : smallS y) : ∀ x ∈ xs ++ [y], smallS x := fun x hx => (List.mem_append.1 hx).elim (h x) (fun e => by rw [List.mem_singleton.1 e]; exact hy)
theorem setS {xs : List SectorD} {y : SectorD} {i : Nat} (h : ∀ x ∈ xs, smallS x) (hy : smallS y) : ∀ x ∈ xs.set i y, smallS x := fun x hx => (List.mem_or_eq_of_mem_set hx).elim (h x) (fun e => by rw [e]; exact hy)
def SecsR (g k m : Nat) (w : World) (e : Ending) (w' : World) : Prop := ∃ u xs, e = .returned u ∧ AccD w g 45 3 encSector w' u xs ∧ Src w' g k ∧ xs.length ≤ m ∧ ∀ x ∈ xs, smallS x
def SecR (g k : Nat) (w : World) (e : Ending) (w' : World) : Prop := ∃ (f t : Int) (c : ByteArray), e = .returned (.agg #[.int .i64 f, .int .i64 t, .string c]) ∧ smallS ⟨f, t, c⟩ ∧ Drew g k w w'
theorem letters4 {s : ByteArray} (h : s ∈ [(⟨#[87]⟩ : ByteArray), ⟨#[82]⟩, ⟨#[71]⟩, ⟨#[89]⟩]) : s.size ≤ 10 := by
  simp only [List.mem_cons, List.not_mem_nil, or_false] at h
  rcases h with rfl | rfl | rfl | rfl <;> decide
theorem letters5 {s : ByteArray} (h : s ∈ [(⟨#[87]⟩ : ByteArray), ⟨#[82]⟩, ⟨#[71]⟩, ⟨#[89]⟩, ⟨#[]⟩]) : s.size ≤ 10 := by
  simp only [List.mem_cons, List.not_mem_nil, or_false] at h
  rcases h with rfl | rfl | rfl | rfl | rfl <;> decide
theorem letters3 {s : ByteArray} (h : s ∈ [(⟨#[]⟩ : ByteArray), ⟨#[66]⟩, ⟨#[87, 82]⟩]) : s.size ≤ 10 := by
  simp only [List.mem_cons, List.not_mem_nil, or_false] at h
  rcases h with rfl | rfl | rfl <;> decide
theorem letters2 {s : ByteArray} (h : s ∈ [(⟨#[66]⟩ : ByteArray), ⟨#[82, 71]⟩]) : s.size ≤ 10 := by
  simp only [List.mem_cons, List.not_mem_nil, or_false] at h
  rcases h with rfl | rfl <;> decide
theorem sizeSet (w : World) (p : Addr) (u : Value) : (w.setCell p u).heap.size = w.heap.size := by simp [World.setCell]
theorem AccD.setOff {W w : World} {g : Nat} {v : Value} {xs : List SectorD} (h : AccD W g 45 3 encSector w v xs) {P i : Nat} (u : Value) (hP : W.heap.size ≤ P) (hne : v.ownBlock ≠ some P) : AccD W g 45 3 encSector (w.setCell ⟨P, i, none⟩ u) v xs := by
  have hk : Kept (fun b => b = P) w (w.setCell ⟨P, i, none⟩ u) := (Kept.refl _ w).set ⟨P, i, none⟩ u rfl
  refine ⟨h.own.kept (row := some P) ⟨hk.os, hk.tape, hk.output, hk.size, fun k hk1 hk2 => hk.block k hk1 fun e => hk2 (by rw [e])⟩ (.inr hne), h.kept.setNew hP u, h.lt⟩
theorem AccD.litS {W w : World} {g : Nat} (hk : Kept (fun b => b = g) W w) (hg : g < W.heap.size) (y : SectorD) : AccD W g 45 3 encSector (w.alloc (.cells #[.int .i64 y.fFrom, .int .i64 y.fTo, .string y.fColor] 45)) (.slice (some ⟨w.heap.size, 0, none⟩) 1 1) [y] :=
  ⟨⟨by simp [encSector], .inr ⟨w.heap.size, 1, #[.int .i64 y.fFrom, .int .i64 y.fTo, .string y.fColor], rfl, hk.size, heap_alloc_new _ _, Nat.le_refl _, by unfold maxLen; omega, by simp, by simp [encSector]⟩⟩, hk.trans (Kept.of ((Below.refl _ _).alloc (Nat.le_refl _) _)), hg⟩
theorem flat_set {α : Type} {n : Nat} (enc : α → List Value) (hn : ∀ x, (enc x).length = n) : ∀ (xs : List α) (i : Nat) (h : i < xs.length) (j : Nat) (u : Value) (y : α), j < n → enc y = (enc xs[i]).set j u → (xs.flatMap enc).set (i * n + j) u = (xs.set i y).flatMap enc
  | [], i, h, _, _, _, _, _ => by simp at h
  | x :: xs, 0, _, j, u, y, hj, hy => by
    simp only [List.getElem_cons_zero] at hy
    simp only [List.flatMap_cons, Nat.zero_mul, Nat.zero_add, List.set_cons_zero]
    rw [List.set_append_left _ _ (by rw [hn]; exact hj), hy]
  | x :: xs, i + 1, h, j, u, y, hj, hy => by
    simp only [List.getElem_cons_succ] at hy
    have ih := flat_set enc hn xs i (by simpa using h) j u y hj hy
    simp only [List.flatMap_cons, List.set_cons_succ]
    rw [List.set_append_right _ _ (by rw [hn, Nat.add_mul]; omega), hn, show (i + 1) * n + j - n = i * n + j by rw [Nat.add_mul]; omega, ih]
/-- a list of sectors that the call owns: its cells, and what it is when one of them is written -/
theorem AccD.at {W w : World} {g : Nat} {v : Value} {xs : List SectorD} (h : AccD W g 45 3 encSector w v xs) (hp : 0 < xs.length) :
    ∃ b cap, v = .slice (some ⟨b, 0, none⟩) xs.length cap ∧ xs.length ≤ cap ∧ cap ≤ 9223372036854775807 ∧ b < w.heap.size ∧ W.heap.size ≤ b ∧ (∀ j, w.frozen? ⟨b, j, none⟩ = false) ∧
      (∀ i (hi : i < xs.length) j, j < 3 → w.cell? ⟨b, i * 3 + j, none⟩ = some ((encSector xs[i]).getD j undef)) ∧
      ∀ i (hi : i < xs.length) j u y, j < 3 → encSector y = (encSector xs[i]).set j u → AccD W g 45 3 encSector (w.setCell ⟨b, i * 3 + j, none⟩ u) v (xs.set i y) := by
  have hS := h.slo (fun _ => rfl)
  obtain ⟨⟨h0, h1⟩, h2, h3⟩ := h
  rcases h1 with ⟨_, h1⟩ | ⟨b, cap, cur, rfl, hg, hh, hc, hm, hsz, ht⟩
  · omega
  · have hm' := hm
    unfold maxLen at hm
    have hlt := (Array.getElem?_eq_some_iff.1 hh).1
    have hmul : xs.length * 3 ≤ cap * 3 := Nat.mul_le_mul_right 3 hc
    refine ⟨b, cap, rfl, hc, hm, hlt, hg, fun j => frozen_of_row w b j cur _ hh, fun i hi j hj => ?_, fun i hi j u y hj hy => ⟨⟨flat_len (n := 3) encSector (fun _ => rfl) _, .inr ⟨b, cap, cur.setIfInBounds (i * 3 + j) u, by simp, hg, heap_setCell_same w b _ cur _ _ hh, by simpa using hc, hm', by simpa using hsz, ?_⟩⟩, h2.setNew hg _, h3⟩⟩
    · rcases hS.1 with ⟨a, c, e, e2, _⟩ | ⟨b', off', cap', e, p1, p2, p3, p4, p5, p6⟩
      · subst e2; simp at hp
      · injection e with e1 e2 e3
        injection e1 with e1; injection e1 with q1 q2 q3
        subst q1 q2
        have := p6 i hi j hj
        rwa [Nat.zero_add] at this
    · rw [List.length_set, Array.toList_setIfInBounds, List.take_set, ht]
      exact flat_set encSector (fun _ => rfl) xs i hi j u y hj hy
set_option maxHeartbeats 4000000 in
theorem c_l08DrawOk (g k : Nat) (w : World) (h : Src w g k) (hk : k ≤ 50000) :
    Calls Tryz.prog 78 #[.pointer (some ⟨g, 0, none⟩)] w (SecsR g (k + 100) 5 w) := by
  have hg := h.lt
  obtain ⟨i0, hi, iz0, iz1, iz2⟩ := info_parts info_Sector
  go_enter Tryz.func78, Tryz.ntmps78
  go_wp2_with fail
  refine (c_pick g k _ _ (by (repeat' (first | (with_reducible assumption) | (with_reducible apply Drew.src; with_reducible assumption) | (with_reducible apply Src.viaB; with_reducible assumption) | (with_reducible refine Src.alloc ?_ _) | (with_reducible refine Src.setFar ?_ ?_ _) | (with_reducible refine Src.drew ?_) | (with_reducible refine Src.drewN ?_ _) | omega | (simp; done) | (simp; omega)))) (by omega) (by omega)).mono ?_
  rintro e w1 ⟨p, rfl, hx, hd1⟩
  have hz1 := hd1.size
  rw [World.size_alloc] at hz1
  have A1 : AccD w g 45 3 encSector w1 (.slice (some ⟨w.heap.size, 0, none⟩) 0 0) ([] : List SectorD) := (AccD.lit (W := w) (w := w) (by (repeat' (first | (with_reducible exact Kept.refl _ _) | (with_reducible refine Kept.alloc' ?_ _) | (with_reducible refine Kept.setNew ?_ ?_ _) | (with_reducible refine Kept.drew ?_) | (with_reducible refine Kept.drewN ?_ _) | (with_reducible apply Kept.viaD; with_reducible assumption) | (with_reducible apply Kept.viaB; with_reducible assumption) | (with_reducible apply Kept.viaO; with_reducible assumption) | omega | (simp; done) | (simp; omega)))) hg 45 3 encSector).by hd1
  have Q1 := hd1.src
  clear hx hd1
  by_cases h0 : p = 0
  · subst h0
    go_wp2_with fail
    go_ret
    exact ⟨_, [], rfl, A1, Q1.mono (by omega), by simp, by simp⟩
  · by_cases h1 : p = 1
    · subst h1
      go_wp2_with fail
      refine (c_pick g (k + 2) _ _ Q1 (by omega) (by omega)).mono ?_
      rintro e w2 ⟨x, rfl, hx, hd2⟩
      have hz2 := hd2.size
      have hx0 := hx.1
      have hx1 := hx.2.1 (by omega)
      have A2 := A1.by hd2
      clear hx A1 Q1
      go_wp2_with fail
      refine (c_text g (k + 2 + 2) _ _ _ (by (repeat' (first | (with_reducible assumption) | (with_reducible apply Drew.src; with_reducible assumption) | (with_reducible apply Src.viaB; with_reducible assumption) | (with_reducible refine Src.alloc ?_ _) | (with_reducible refine Src.setFar ?_ ?_ _) | (with_reducible refine Src.drew ?_) | (with_reducible refine Src.drewN ?_ _) | omega | (simp; done) | (simp; omega)))) (by omega) (by first | exact (lit_at (enc := encT) (fun _ => rfl) [⟨#[87]⟩, ⟨#[82]⟩, ⟨#[71]⟩, ⟨#[89]⟩] rfl (by first | rfl | (simp; done)) (by first | omega | (simp; omega)) rfl rfl (by simp) (by simp)) | exact Lit.drew (lit_at (enc := encT) (fun _ => rfl) [⟨#[87]⟩, ⟨#[82]⟩, ⟨#[71]⟩, ⟨#[89]⟩] rfl (by first | rfl | (simp; done)) (by first | omega | (simp; omega)) rfl rfl (by simp) (by simp)) | fail)).mono ?_
      rintro e w3 ⟨s, rfl, hs, hd3⟩
      have hK3 : Kept (fun b => b = g) w2 w3 := by (repeat' (first | (with_reducible exact Kept.refl _ _) | (with_reducible refine Kept.alloc' ?_ _) | (with_reducible refine Kept.setNew ?_ ?_ _) | (with_reducible refine Kept.drew ?_) | (with_reducible refine Kept.drewN ?_ _) | (with_reducible apply Kept.viaD; with_reducible assumption) | (with_reducible apply Kept.viaB; with_reducible assumption) | (with_reducible apply Kept.viaO; with_reducible assumption) | omega | (simp; done) | (simp; omega)))
      have A3 := A2.only hK3
      have Q3 := hd3.src
      have hs10 := letters4 hs
      have HL := hid (AccD.litS A3.kept hg ⟨x, x, s⟩)
      have HQ := hid (Q3.alloc (.cells #[.int .i64 x, .int .i64 x, .string s] 45))
      clear hs hd3 A2 hd2 hK3 A3 Q3
      go_wp2_with fail
      go_ret
      exact ⟨_, [⟨x, x, s⟩], rfl, HL.out, HQ.out.mono (by omega), by simp, fun y hy => by rw [List.mem_singleton.1 hy]; exact ⟨by simp only []; omega, by simp only []; omega, hs10⟩⟩
    · have hpB : (p == 0) = false := by simpa using h0
      have hpB1 : (p == 1) = false := by simpa using h1
      go_wp2_with fail
      refine (c_pick g (k + 2) _ _ Q1 (by omega) (by omega)).mono ?_
      rintro e w2 ⟨x, rfl, hx, hd2⟩
      have hz2 := hd2.size
      have hx0 := hx.1
      have hx1 := hx.2.1 (by omega)
      have A2 := A1.by hd2
      have Q2 := hd2.src
      clear hx A1 Q1 hd2
      go_wp2_with fail
      refine (c_pick g (k + 2 + 2) _ _ Q2 (by omega) (by omega)).mono ?_
      rintro e w3 ⟨y, rfl, hy, hd3⟩
      have hz3 := hd3.size
      obtain ⟨N, rfl⟩ : ∃ N : Nat, y = N := ⟨y.toNat, by omega⟩
      have hN : N < 5 := by have := hy.2.1 (by omega); omega
      have A3 := A2.by hd3
      have Q3 := hd3.src
      clear hy A2 Q2 hd3
      go_wp2_with fail
      go_loopw [3, 5, 7] (fun v a i wr => ∃ (j m : Nat) (A : Int) (xs : List SectorD), i = .int .i64 j ∧ a = .int .i64 A ∧ m + j = N + 1 ∧ 0 ≤ A ∧ A ≤ 60 + 110 * m ∧ AccD w g 45 3 encSector wr v xs ∧ Src wr g (k + 6 + 8 * m) ∧ xs.length ≤ m ∧ Hid (∀ x ∈ xs, smallS x)) (fun _ _ i _ => (intOf i).toNat)
      case atStart => exact ⟨N + 1, 0, x, [], by go_num, rfl, by omega, hx0, by omega, A3, Q3.mono (by omega), by simp, hid (by simp)⟩
      case round =>
        clear A3 Q3
        obtain ⟨j, m, A, xs, rfl, rfl, hjm, hA0, hA1, hA, hQ, hl, hok⟩ := hrel
        have HJ := hid hjm
        have hm5 : m ≤ 5 := by omega
        have hj5 : j ≤ 5 := by omega
        clear hjm
        by_cases hlt : 0 < j
        · have hltI : (0 : Int) < j := by omega
          have HJ2 := hid (show m + 1 ≤ 5 by have := HJ.out; omega)
          have hm4 := HJ2.out
          go_wp2_with fail
          refine (c_pick g (k + 6 + 8 * m) _ _ hQ (by omega) (by omega)).mono ?_
          rintro e w4 ⟨wd, rfl, hw, hd4⟩
          have hz4 := hd4.size
          have hw0 := hw.1
          have hw1 := hw.2.1 (by omega)
          have A4 := hA.by hd4
          have Q4 := hd4.src
          have hg4 := Q4.lt
          have hgA : w.heap.size ≤ w4.heap.size := A4.kept.size
          clear hw hA hQ hd4
          by_cases b1 : x + 360 < A + (wd + 1)
          · go_wp2_with fail
            go_ret
            exact ⟨_, xs, rfl, A4, Q4.mono (by omega), by omega, hok.out⟩
          · by_cases b2 : 359 < A
            · go_wp2_with fail
              go_ret
              exact ⟨_, xs, rfl, A4, Q4.mono (by omega), by omega, hok.out⟩
            · obtain ⟨T, hT⟩ : ∃ T, T = (A + (wd + 1)) % 360 := ⟨_, rfl⟩
              have hT0 : 0 ≤ T := by rw [hT]; omega
              have hT1 : T < 360 := by rw [hT]; omega
              have HT := hid hT
              clear hT
              go_wp2_with fail
              rw [← HT.out]
              refine (c_text g (k + 6 + 8 * m + 2) _ _ _ (by (repeat' (first | (with_reducible assumption) | (with_reducible apply Drew.src; with_reducible assumption) | (with_reducible apply Src.viaB; with_reducible assumption) | (with_reducible refine Src.alloc ?_ _) | (with_reducible refine Src.setFar ?_ ?_ _) | (with_reducible refine Src.drew ?_) | (with_reducible refine Src.drewN ?_ _) | omega | (simp; done) | (simp; omega)))) (by omega) (by first | exact (lit_at (enc := encT) (fun _ => rfl) [⟨#[87]⟩, ⟨#[82]⟩, ⟨#[71]⟩, ⟨#[89]⟩] rfl (by first | rfl | (simp; done)) (by first | omega | (simp; omega)) rfl rfl (by simp) (by simp)) | exact Lit.drew (lit_at (enc := encT) (fun _ => rfl) [⟨#[87]⟩, ⟨#[82]⟩, ⟨#[71]⟩, ⟨#[89]⟩] rfl (by first | rfl | (simp; done)) (by first | omega | (simp; omega)) rfl rfl (by simp) (by simp)) | fail)).mono ?_
              rintro e w5 ⟨s, rfl, hs, hd5⟩
              have hz5 := hd5.size
              simp at hz5
              have hK5 : Kept (fun b => b = g) w4 w5 := by (repeat' (first | (with_reducible exact Kept.refl _ _) | (with_reducible refine Kept.alloc' ?_ _) | (with_reducible refine Kept.setNew ?_ ?_ _) | (with_reducible refine Kept.drew ?_) | (with_reducible refine Kept.drewN ?_ _) | (with_reducible apply Kept.viaD; with_reducible assumption) | (with_reducible apply Kept.viaB; with_reducible assumption) | (with_reducible apply Kept.viaO; with_reducible assumption) | omega | (simp; done) | (simp; omega)))
              have R5 : Bk w5 w4.heap.size 45 [.int .i64 A, .int .i64 T, .string ⟨#[]⟩] := (by (repeat' (first | (with_reducible exact Bk.new _ _ _) | (with_reducible refine Bk.new1 ?_; first | rfl | (simp; done) | omega) | (with_reducible assumption) | (with_reducible refine Bk.alloc ?_ _) | (with_reducible refine Bk.drew ?_) | (with_reducible refine Bk.drewN ?_ _) | (with_reducible refine Bk.other ?_ ?_ _) | (with_reducible apply Bk.drewBy; with_reducible assumption) | (with_reducible apply Bk.viaB; with_reducible assumption) | omega | (simp; done))))
              have hs10 := letters4 hs
              have A5 := A4.only hK5
              have Q5 := hd5.src
              have ho : u3.ownBlock ≠ some w4.heap.size := fun e => by
                have := A4.own
                obtain ⟨q1, q2, q3⟩ := (A4.slo (fun _ => rfl)).2 _ e
                omega
              have A6 := A5.setOff (P := w4.heap.size) (i := 2) (.string s) hgA ho
              have Q6 := Q5.setFar (q := w4.heap.size) (o := 2) (by omega) (.string s)
              have c0 := R5.cell 0 rfl
              have c1 := R5.cell 1 rfl
              have c2 := R5.cell 2 rfl
              have cf := R5.fr 2
              have HA6 := hid A6
              have HQ6 := hid Q6
              clear hs hd5 hK5 A4 A5 A6 Q4 Q5 Q6 R5 ho
              go_wp2_with (at_builtin; refine wpList_pushD (α := SectorD) rfl (.tmp 60) (.tmp 62) 43 rfl i0 _ 32 Tryz.underlying43 hi iz0 iz1 iz2 rfl (by decide) (fun _ => rfl) (⟨A, T, s⟩ : SectorD) rfl HA6.out 45 1 (by first | rfl | (rw [size_drewN]; rfl) | (rw [World.size_alloc]; done) | (rw [World.size_alloc]; rfl) | (rw [sizeSet]; rfl) | (rw [sizeSet]; done)) (one_encS _) (by unfold maxLen; omega) (by omega) ?_; intro v7 w7 hA7 hK7 hat7)
              have Q7 : Src w7 g (k + 6 + 8 * m + 2 + 2) := HQ6.out.kept hK7 fun b hb => by have := HA6.out.far b hb; omega
              have HM := hid (snocS hok.out (show smallS ⟨A, T, s⟩ from ⟨by simp only []; omega, by simp only []; omega, hs10⟩))
              refine (c_one g (k + 6 + 8 * m + 2 + 2) _ _ Q7 (by omega) (by omega)).mono ?_
              rintro e w8 ⟨bq, rfl, hd8⟩
              have A8 := hA7.by hd8
              have Q8 := hd8.src
              clear hd8 Q7 hA7 hK7 hat7 HA6 HQ6
              cases bq
              · go_wp2_with fail
                go_roundw
                case rel => exact ⟨j - 1, m + 1, A + (wd + 1), _, (by rw [show ((j - 1 : Nat) : Int) = (j : Int) - 1 by omega]), rfl, by have := HJ.out; omega, by omega, by omega, A8, Q8.mono (by omega), by simp; omega, HM⟩
                case measure => simp [intOf]; omega
              · go_wp2_with fail
                refine (c_pick g (k + 6 + 8 * m + 2 + 2 + 2) _ _ Q8 (by omega) (by omega)).mono ?_
                rintro e w9 ⟨z, rfl, hz, hd9⟩
                have hzz0 := hz.1
                have hzz1 := hz.2.1 (by omega)
                have A9 := A8.by hd9
                have Q9 := hd9.src
                clear hz hd9 A8 Q8
                go_wp2_with fail
                go_roundw
                case rel => exact ⟨j - 1, m + 1, A + (wd + 1) + z, _, (by rw [show ((j - 1 : Nat) : Int) = (j : Int) - 1 by omega]), rfl, by have := HJ.out; omega, by omega, by omega, A9, Q9.mono (by omega), by simp; omega, HM⟩
                case measure => simp [intOf]; omega
        · have hltI : ¬ (0 : Int) < j := by omega
          go_wp2_with fail
          go_ret
          exact ⟨_, xs, rfl, hA, hQ.mono (by omega), by omega, hok.out⟩
set_option maxHeartbeats 4000000 in
theorem c_l08Draw (g k : Nat) (w : World) (h : Src w g k) (hk : k ≤ 50000) :
    Calls Tryz.prog 47 #[.pointer (some ⟨g, 0, none⟩)] w (SecsR g (k + 110) 13 w) := by
  have hg := h.lt
  obtain ⟨i0, hi, iz0, iz1, iz2⟩ := info_parts info_Sector
  go_enter Tryz.func47, Tryz.ntmps47
  go_wp2_with fail
  refine (c_l08DrawOk g k _ (by (repeat' (first | (with_reducible assumption) | (with_reducible apply Drew.src; with_reducible assumption) | (with_reducible apply Src.viaB; with_reducible assumption) | (with_reducible refine Src.alloc ?_ _) | (with_reducible refine Src.setFar ?_ ?_ _) | (with_reducible refine Src.drew ?_) | (with_reducible refine Src.drewN ?_ _) | omega | (simp; done) | (simp; omega)))) (by omega)).mono ?_
  rintro e w1 ⟨u, xs, rfl, hA1, hQ1, hl1, hm1⟩
  have hz1 := hA1.kept.size
  have HM := hid hm1
  clear hm1
  go_wp2_with fail
  refine (c_pick g (k + 100) _ _ hQ1 (by omega) (by omega)).mono ?_
  rintro e w2 ⟨p, rfl, hx, hd2⟩
  have hA2 := hA1.by hd2
  have hz2 := hd2.size
  have hQ2 := hd2.src
  clear hx hd2 hQ1 hA1
  cases hxs : xs with
  | nil =>
    subst hxs
    have hu : ∃ ad cap, u = .slice ad 0 cap := by
      rcases hA2.own.2 with ⟨rfl, _⟩ | ⟨g', cap, cur, rfl, -⟩
      · exact ⟨none, 0, rfl⟩
      · exact ⟨_, cap, rfl⟩
    obtain ⟨ad, cap, rfl⟩ := hu
    by_cases h3 : p = 3
    · subst h3
      go_wp2_with fail
      refine (c_among g (k + 100 + 2) _ _ _ (by (repeat' (first | (with_reducible assumption) | (with_reducible apply Drew.src; with_reducible assumption) | (with_reducible apply Src.viaB; with_reducible assumption) | (with_reducible refine Src.alloc ?_ _) | (with_reducible refine Src.setFar ?_ ?_ _) | (with_reducible refine Src.drew ?_) | (with_reducible refine Src.drewN ?_ _) | omega | (simp; done) | (simp; omega)))) (by omega) (by first | exact (lit_at (enc := encI) (fun _ => rfl) [12, 13] rfl (by first | rfl | (simp; done)) (by first | omega | (simp; omega)) rfl rfl (by simp) (by simp)) | exact Lit.drew (lit_at (enc := encI) (fun _ => rfl) [12, 13] rfl (by first | rfl | (simp; done)) (by first | omega | (simp; omega)) rfl rfl (by simp) (by simp)) | fail)).mono ?_
      rintro e w3 ⟨n, rfl, hn, hd3⟩
      obtain ⟨N, rfl⟩ : ∃ N : Nat, n = N := ⟨n.toNat, by simp at hn; omega⟩
      have hN : N ≤ 13 := by simp at hn; omega
      have hz3 := hd3.size
      simp at hz3
      have hA3 : AccD w g 45 3 encSector (w3.alloc (.cells #[] 45)) (.slice (some ⟨w3.heap.size, 0, none⟩) 0 0) ([] : List SectorD) := AccD.lit (hA2.kept.trans (by (repeat' (first | (with_reducible exact Kept.refl _ _) | (with_reducible refine Kept.alloc' ?_ _) | (with_reducible refine Kept.setNew ?_ ?_ _) | (with_reducible refine Kept.drew ?_) | (with_reducible refine Kept.drewN ?_ _) | (with_reducible apply Kept.viaD; with_reducible assumption) | (with_reducible apply Kept.viaB; with_reducible assumption) | (with_reducible apply Kept.viaO; with_reducible assumption) | omega | (simp; done) | (simp; omega))))) hg _ _ _
      have hQ3 := hd3.src
      clear hn hd3 hA2 hQ2
      go_wp2_with fail
      go_loopw [3, 5] (fun v i wr => ∃ (j : Nat) (ys : List SectorD), i = .int .i64 j ∧ j ≤ N ∧ ys.length = j ∧ Hid (∀ x ∈ ys, smallS x) ∧ AccD w g 45 3 encSector wr v ys ∧ Src wr g (k + 104)) (fun _ i _ => N - (intOf i).toNat)
      case atStart => exact ⟨0, [], rfl, Nat.zero_le _, rfl, hid (by simp), hA3, by (repeat' (first | (with_reducible assumption) | (with_reducible apply Drew.src; with_reducible assumption) | (with_reducible apply Src.viaB; with_reducible assumption) | (with_reducible refine Src.alloc ?_ _) | (with_reducible refine Src.setFar ?_ ?_ _) | (with_reducible refine Src.drew ?_) | (with_reducible refine Src.drewN ?_ _) | omega | (simp; done) | (simp; omega)))⟩
      case round =>
        clear hA3 hQ3
        obtain ⟨j, ys, rfl, hj, hyl, hok, hA, hQ⟩ := hrel
        by_cases hlt : j < N
        · have hltI : (j : Int) < N := by omega
          have hj13 : (j : Int) ≤ 13 := by omega
          have hy13 : ys.length ≤ 13 := by omega
          have HY := hid hyl
          have HA := hid hA
          clear hA hyl
          go_wp2_with (at_builtin; refine wpList_pushD (α := SectorD) rfl (.tmp 59) (.tmp 66) 43 rfl i0 _ 32 Tryz.underlying43 hi iz0 iz1 iz2 rfl (by decide) (fun _ => rfl) (⟨20 * (j : Int), 20 * (j : Int) + 10, ⟨#[87]⟩⟩ : SectorD) rfl HA.out 45 1 (by first | rfl | (rw [size_drewN]; rfl) | (rw [World.size_alloc]; done) | (rw [World.size_alloc]; rfl) | (rw [sizeSet]; rfl) | (rw [sizeSet]; done)) (one_encS _) (by unfold maxLen; omega) (by omega) ?_; intro v4 w4 hA4 hK4 hat4)
          go_roundw
          case rel => exact ⟨j + 1, _, by go_num, by omega, by simp; exact HY.out, hid (snocS hok.out ⟨by simp only []; omega, by simp only []; omega, (show (⟨#[87]⟩ : ByteArray).size ≤ 10 by decide)⟩), hA4, hQ.kept ((Kept.of (Below.refl _ _)).trans hK4) fun b hb => by have := HA.out.far b hb; omega⟩
          case measure => simp [intOf]; omega
        · have hltI : ¬ (j : Int) < N := by omega
          go_wp2_with fail
          go_ret
          exact ⟨_, ys, rfl, hA, hQ.mono (by omega), by omega, hok.out⟩
    · have b3 : (p == 3) = false := by simpa using h3
      by_cases h0 : p = 0
      · subst h0
        go_wp2_with fail
        go_ret
        exact ⟨_, [], rfl, hA2, hQ2.mono (by omega), by simp, by simp⟩
      · have b0 : (p == 0) = false := by simpa using h0
        by_cases h1 : p = 1
        · subst h1
          go_wp2_with fail
          go_ret
          exact ⟨_, [], rfl, hA2, hQ2.mono (by omega), by simp, by simp⟩
        · have b1 : (p == 1) = false := by simpa using h1
          by_cases h2 : p = 2
          · subst h2
            go_wp2_with fail
            go_ret
            exact ⟨_, [], rfl, hA2, hQ2.mono (by omega), by simp, by simp⟩
          · have b2 : (p == 2) = false := by simpa using h2
            go_wp2_with fail
            go_ret
            exact ⟨_, [], rfl, hA2, hQ2.mono (by omega), by simp, by simp⟩
  | cons d tl =>
    have hlen : 0 < xs.length := by rw [hxs]; simp
    have hlI : (0 : Int) < xs.length := by omega
    have HXS := hid hxs
    clear hxs
    obtain ⟨b, cap, rfl, hc, hm, hb, hW, hf, hcl, hset⟩ := hA2.at hlen
    by_cases h3 : p = 3
    · subst h3
      clear hcl hset
      go_wp2_with fail
      refine (c_among g (k + 100 + 2) _ _ _ (by (repeat' (first | (with_reducible assumption) | (with_reducible apply Drew.src; with_reducible assumption) | (with_reducible apply Src.viaB; with_reducible assumption) | (with_reducible refine Src.alloc ?_ _) | (with_reducible refine Src.setFar ?_ ?_ _) | (with_reducible refine Src.drew ?_) | (with_reducible refine Src.drewN ?_ _) | omega | (simp; done) | (simp; omega)))) (by omega) (by first | exact (lit_at (enc := encI) (fun _ => rfl) [12, 13] rfl (by first | rfl | (simp; done)) (by first | omega | (simp; omega)) rfl rfl (by simp) (by simp)) | exact Lit.drew (lit_at (enc := encI) (fun _ => rfl) [12, 13] rfl (by first | rfl | (simp; done)) (by first | omega | (simp; omega)) rfl rfl (by simp) (by simp)) | fail)).mono ?_
      rintro e w3 ⟨n, rfl, hn, hd3⟩
      obtain ⟨N, rfl⟩ : ∃ N : Nat, n = N := ⟨n.toNat, by simp at hn; omega⟩
      have hN : N ≤ 13 := by simp at hn; omega
      have hz3 := hd3.size
      simp at hz3
      have hA3 : AccD w g 45 3 encSector (w3.alloc (.cells #[] 45)) (.slice (some ⟨w3.heap.size, 0, none⟩) 0 0) ([] : List SectorD) := AccD.lit (hA2.kept.trans (by (repeat' (first | (with_reducible exact Kept.refl _ _) | (with_reducible refine Kept.alloc' ?_ _) | (with_reducible refine Kept.setNew ?_ ?_ _) | (with_reducible refine Kept.drew ?_) | (with_reducible refine Kept.drewN ?_ _) | (with_reducible apply Kept.viaD; with_reducible assumption) | (with_reducible apply Kept.viaB; with_reducible assumption) | (with_reducible apply Kept.viaO; with_reducible assumption) | omega | (simp; done) | (simp; omega))))) hg _ _ _
      have hQ3 := hd3.src
      clear hn hd3 hA2 hQ2
      go_wp2_with fail
      go_loopw [3, 5] (fun v i wr => ∃ (j : Nat) (ys : List SectorD), i = .int .i64 j ∧ j ≤ N ∧ ys.length = j ∧ Hid (∀ x ∈ ys, smallS x) ∧ AccD w g 45 3 encSector wr v ys ∧ Src wr g (k + 104)) (fun _ i _ => N - (intOf i).toNat)
      case atStart => exact ⟨0, [], rfl, Nat.zero_le _, rfl, hid (by simp), hA3, by (repeat' (first | (with_reducible assumption) | (with_reducible apply Drew.src; with_reducible assumption) | (with_reducible apply Src.viaB; with_reducible assumption) | (with_reducible refine Src.alloc ?_ _) | (with_reducible refine Src.setFar ?_ ?_ _) | (with_reducible refine Src.drew ?_) | (with_reducible refine Src.drewN ?_ _) | omega | (simp; done) | (simp; omega)))⟩
      case round =>
        clear hA3 hQ3
        obtain ⟨j, ys, rfl, hj, hyl, hok, hA, hQ⟩ := hrel
        by_cases hlt : j < N
        · have hltI : (j : Int) < N := by omega
          have hj13 : (j : Int) ≤ 13 := by omega
          have hy13 : ys.length ≤ 13 := by omega
          have HY := hid hyl
          have HA := hid hA
          clear hA hyl
          go_wp2_with (at_builtin; refine wpList_pushD (α := SectorD) rfl (.tmp 59) (.tmp 66) 43 rfl i0 _ 32 Tryz.underlying43 hi iz0 iz1 iz2 rfl (by decide) (fun _ => rfl) (⟨20 * (j : Int), 20 * (j : Int) + 10, ⟨#[87]⟩⟩ : SectorD) rfl HA.out 45 1 (by first | rfl | (rw [size_drewN]; rfl) | (rw [World.size_alloc]; done) | (rw [World.size_alloc]; rfl) | (rw [sizeSet]; rfl) | (rw [sizeSet]; done)) (one_encS _) (by unfold maxLen; omega) (by omega) ?_; intro v4 w4 hA4 hK4 hat4)
          go_roundw
          case rel => exact ⟨j + 1, _, by go_num, by omega, by simp; exact HY.out, hid (snocS hok.out ⟨by simp only []; omega, by simp only []; omega, (show (⟨#[87]⟩ : ByteArray).size ≤ 10 by decide)⟩), hA4, hQ.kept ((Kept.of (Below.refl _ _)).trans hK4) fun b hb => by have := HA.out.far b hb; omega⟩
          case measure => simp [intOf]; omega
        · have hltI : ¬ (j : Int) < N := by omega
          go_wp2_with fail
          go_ret
          exact ⟨_, ys, rfl, hA, hQ.mono (by omega), by omega, hok.out⟩
    · have b3 : (p == 3) = false := by simpa using h3
      by_cases h0 : p = 0
      · subst h0
        clear hcl hset hf
        go_wp2_with fail
        refine (c_text g (k + 100 + 2) _ _ _ (by (repeat' (first | (with_reducible assumption) | (with_reducible apply Drew.src; with_reducible assumption) | (with_reducible apply Src.viaB; with_reducible assumption) | (with_reducible refine Src.alloc ?_ _) | (with_reducible refine Src.setFar ?_ ?_ _) | (with_reducible refine Src.drew ?_) | (with_reducible refine Src.drewN ?_ _) | omega | (simp; done) | (simp; omega)))) (by omega) (by first | exact (lit_at (enc := encT) (fun _ => rfl) [⟨#[]⟩, ⟨#[66]⟩, ⟨#[87, 82]⟩] rfl (by first | rfl | (simp; done)) (by first | omega | (simp; omega)) rfl rfl (by simp) (by simp)) | exact Lit.drew (lit_at (enc := encT) (fun _ => rfl) [⟨#[]⟩, ⟨#[66]⟩, ⟨#[87, 82]⟩] rfl (by first | rfl | (simp; done)) (by first | omega | (simp; omega)) rfl rfl (by simp) (by simp)) | fail)).mono ?_
        rintro e w3 ⟨s, rfl, hs, hd3⟩
        have hz3 := hd3.size
        have hs10 := letters3 hs
        have hA3 := hA2.only (w' := w3) (by (repeat' (first | (with_reducible exact Kept.refl _ _) | (with_reducible refine Kept.alloc' ?_ _) | (with_reducible refine Kept.setNew ?_ ?_ _) | (with_reducible refine Kept.drew ?_) | (with_reducible refine Kept.drewN ?_ _) | (with_reducible apply Kept.viaD; with_reducible assumption) | (with_reducible apply Kept.viaB; with_reducible assumption) | (with_reducible apply Kept.viaO; with_reducible assumption) | omega | (simp; done) | (simp; omega))))
        have hQ3 := hd3.src
        obtain ⟨b', cap', e', hc', hm', hb', hW', hf, hcl, hset⟩ := hA3.at hlen
        injection e' with e1 e2 e3
        injection e1 with e1; injection e1 with e1
        subst e1; subst e3
        have c0 := hcl 0 hlen 2 (by omega)
        have hS := hset 0 hlen 2 (.string s) ⟨xs[0].fFrom, xs[0].fTo, s⟩ (by omega) rfl
        simp only [encSector, Nat.zero_mul, Nat.zero_add, List.getD_cons_zero, List.getD_cons_succ] at c0 hS
        have hf2 := hf 2
        have hQ4 := hQ3.setFar (q := b) (o := 2) (by omega) (.string s)
        have HS := hid hS
        have HQ := hid hQ4
        have HN := hid (setS HM.out (i := 0) (show smallS ⟨xs[0].fFrom, xs[0].fTo, s⟩ from ⟨(HM.out _ (List.getElem_mem hlen)).1, (HM.out _ (List.getElem_mem hlen)).2.1, hs10⟩))
        clear hs hd3 hA2 hA3 hQ2 hQ3 hcl hset hf hS hQ4
        go_wp2_with fail
        go_ret
        exact ⟨_, _, rfl, HS.out, HQ.out.mono (by omega), by simp; omega, HN.out⟩
      · have b0 : (p == 0) = false := by simpa using h0
        by_cases h1 : p = 1
        · subst h1
          have a0 := hcl 0 hlen 0 (by omega)
          simp only [encSector, Nat.zero_mul, Nat.zero_add, List.getD_cons_zero] at a0
          have hF := (HM.out _ (List.getElem_mem hlen)).1
          obtain ⟨F, hF0⟩ : ∃ F, F = xs[0].fFrom := ⟨_, rfl⟩
          rw [← hF0] at a0 hF
          have HF := hid hF0
          clear hcl hset hf hF0
          go_wp2_with fail
          refine (c_among g (k + 100 + 2) _ _ _ (by (repeat' (first | (with_reducible assumption) | (with_reducible apply Drew.src; with_reducible assumption) | (with_reducible apply Src.viaB; with_reducible assumption) | (with_reducible refine Src.alloc ?_ _) | (with_reducible refine Src.setFar ?_ ?_ _) | (with_reducible refine Src.drew ?_) | (with_reducible refine Src.drewN ?_ _) | omega | (simp; done) | (simp; omega)))) (by omega) (by first | exact (lit_at (enc := encI) (fun _ => rfl) [-1, 360, F] rfl (by first | rfl | (simp; done)) (by first | omega | (simp; omega)) rfl rfl (by simp) (by simp)) | exact Lit.drew (lit_at (enc := encI) (fun _ => rfl) [-1, 360, F] rfl (by first | rfl | (simp; done)) (by first | omega | (simp; omega)) rfl rfl (by simp) (by simp)) | fail)).mono ?_
          rintro e w3 ⟨n, rfl, hn, hd3⟩
          have hn2 : -1000 ≤ n ∧ n ≤ 1000 := by
            simp only [List.mem_cons, List.not_mem_nil, or_false] at hn
            rcases hn with rfl | rfl | rfl <;> omega
          have hz3 := hd3.size
          have hA3 := hA2.only (w' := w3) (by (repeat' (first | (with_reducible exact Kept.refl _ _) | (with_reducible refine Kept.alloc' ?_ _) | (with_reducible refine Kept.setNew ?_ ?_ _) | (with_reducible refine Kept.drew ?_) | (with_reducible refine Kept.drewN ?_ _) | (with_reducible apply Kept.viaD; with_reducible assumption) | (with_reducible apply Kept.viaB; with_reducible assumption) | (with_reducible apply Kept.viaO; with_reducible assumption) | omega | (simp; done) | (simp; omega))))
          have hQ3 := hd3.src
          obtain ⟨b', cap', e', hc', hm', hb', hW', hf, hcl, hset⟩ := hA3.at hlen
          injection e' with e1 e2 e3
          injection e1 with e1; injection e1 with e1
          subst e1; subst e3
          have c0 := hcl 0 hlen 1 (by omega)
          have hS := hset 0 hlen 1 (.int .i64 n) ⟨xs[0].fFrom, n, xs[0].fColor⟩ (by omega) rfl
          simp only [encSector, Nat.zero_mul, Nat.zero_add, List.getD_cons_zero, List.getD_cons_succ] at c0 hS
          have hf2 := hf 1
          have hQ4 := hQ3.setFar (q := b) (o := 1) (by omega) (.int .i64 n)
          have HS := hid hS
          have HQ := hid hQ4
          have HN := hid (setS HM.out (i := 0) (show smallS ⟨xs[0].fFrom, n, xs[0].fColor⟩ from ⟨(HM.out _ (List.getElem_mem hlen)).1, hn2, (HM.out _ (List.getElem_mem hlen)).2.2⟩))
          clear hn hd3 hA2 hA3 hQ2 hQ3 hcl hset hf hS hQ4
          go_wp2_with fail
          go_ret
          exact ⟨_, _, rfl, HS.out, HQ.out.mono (by omega), by simp; omega, HN.out⟩
        · have b1 : (p == 1) = false := by simpa using h1
          by_cases h2 : p = 2
          · subst h2
            by_cases h2l : 1 < xs.length
            · have h2I : (1 : Int) < xs.length := by omega
              have a0 := hcl 0 hlen 0 (by omega)
              have a1 := hcl 1 h2l 0 (by omega)
              have hS := hset 1 h2l 0 (.int .i64 xs[0].fFrom) ⟨xs[0].fFrom, xs[1].fTo, xs[1].fColor⟩ (by omega) rfl
              simp only [encSector, Nat.zero_mul, Nat.one_mul, Nat.zero_add, Nat.add_zero, List.getD_cons_zero] at a0 a1 hS
              have hf2 := hf 3
              have hQ4 := hQ2.setFar (q := b) (o := 3) (by omega) (.int .i64 xs[0].fFrom)
              have HS := hid hS
              have HQ := hid hQ4
              have HN := hid (setS HM.out (i := 1) (show smallS ⟨xs[0].fFrom, xs[1].fTo, xs[1].fColor⟩ from ⟨(HM.out _ (List.getElem_mem hlen)).1, (HM.out _ (List.getElem_mem h2l)).2.1, (HM.out _ (List.getElem_mem h2l)).2.2⟩))
              clear hA2 hQ2 hcl hset hf hS hQ4
              go_wp2_with fail
              go_ret
              exact ⟨_, _, rfl, HS.out, HQ.out.mono (by omega), by simp; omega, HN.out⟩
            · have h2I : ¬ (1 : Int) < xs.length := by omega
              clear hcl hset hf
              go_wp2_with fail
              go_ret
              exact ⟨_, xs, rfl, hA2, hQ2.mono (by omega), by omega, HM.out⟩
          · have b2 : (p == 2) = false := by simpa using h2
            clear hcl hset hf
            go_wp2_with fail
            go_ret
            exact ⟨_, xs, rfl, hA2, hQ2.mono (by omega), by omega, HM.out⟩
set_option maxHeartbeats 4000000 in
theorem c_l08DrawSector (g k : Nat) (w : World) (h : Src w g k) (hk : k ≤ 50000) :
    Calls Tryz.prog 48 #[.pointer (some ⟨g, 0, none⟩)] w (SecR g (k + 10) w) := by
  have hg := h.lt
  have n0 : w.heap.size ≠ g := by omega
  go_enter Tryz.func48, Tryz.ntmps48
  go_wp2_with fail
  refine (c_pick g k _ _ (by (repeat' (first | (with_reducible assumption) | (with_reducible apply Drew.src; with_reducible assumption) | (with_reducible apply Src.viaB; with_reducible assumption) | (with_reducible refine Src.alloc ?_ _) | (with_reducible refine Src.setFar ?_ ?_ _) | (with_reducible refine Src.drew ?_) | (with_reducible refine Src.drewN ?_ _) | omega | (simp; done) | (simp; omega)))) (by omega) (by omega)).mono ?_
  rintro e w1 ⟨x, rfl, hx, hd1⟩
  have hz1 := hd1.size
  simp at hz1
  have hx0 := hx.1
  have hx1 := hx.2.1 (by omega)
  have n1 : w1.heap.size ≠ g := by omega
  have R1 : Bk w1 w.heap.size 45 [.int .i64 0, .int .i64 0, .string ⟨#[]⟩] := (by (repeat' (first | (with_reducible exact Bk.new _ _ _) | (with_reducible refine Bk.new1 ?_; first | rfl | (simp; done) | omega) | (with_reducible assumption) | (with_reducible refine Bk.alloc ?_ _) | (with_reducible refine Bk.drew ?_) | (with_reducible refine Bk.drewN ?_ _) | (with_reducible refine Bk.other ?_ ?_ _) | (with_reducible apply Bk.drewBy; with_reducible assumption) | (with_reducible apply Bk.viaB; with_reducible assumption) | omega | (simp; done))))
  have K1 : Kept (fun b => b = g) w w1 := by (repeat' (first | (with_reducible exact Kept.refl _ _) | (with_reducible refine Kept.alloc' ?_ _) | (with_reducible refine Kept.setNew ?_ ?_ _) | (with_reducible refine Kept.drew ?_) | (with_reducible refine Kept.drewN ?_ _) | (with_reducible apply Kept.viaD; with_reducible assumption) | (with_reducible apply Kept.viaB; with_reducible assumption) | (with_reducible apply Kept.viaO; with_reducible assumption) | omega | (simp; done) | (simp; omega)))
  clear hx
  go_wp2_with fail
  refine (c_pick g (k + 2) _ _ (by (repeat' (first | (with_reducible assumption) | (with_reducible apply Drew.src; with_reducible assumption) | (with_reducible apply Src.viaB; with_reducible assumption) | (with_reducible refine Src.alloc ?_ _) | (with_reducible refine Src.setFar ?_ ?_ _) | (with_reducible refine Src.drew ?_) | (with_reducible refine Src.drewN ?_ _) | omega | (simp; done) | (simp; omega)))) (by omega) (by omega)).mono ?_
  rintro e w2 ⟨y, rfl, hy, hd2⟩
  have hz2 := hd2.size
  simp at hz2
  have hy0 := hy.1
  have hy1 := hy.2.1 (by omega)
  have R2 : Bk w2 w.heap.size 45 [.int .i64 0, .int .i64 0, .string ⟨#[]⟩] := (by (repeat' (first | (with_reducible exact Bk.new _ _ _) | (with_reducible refine Bk.new1 ?_; first | rfl | (simp; done) | omega) | (with_reducible assumption) | (with_reducible refine Bk.alloc ?_ _) | (with_reducible refine Bk.drew ?_) | (with_reducible refine Bk.drewN ?_ _) | (with_reducible refine Bk.other ?_ ?_ _) | (with_reducible apply Bk.drewBy; with_reducible assumption) | (with_reducible apply Bk.viaB; with_reducible assumption) | omega | (simp; done))))
  have P2 : Bk w2 w1.heap.size 45 [.int .i64 x, .int .i64 0, .string ⟨#[]⟩] := (by (repeat' (first | (with_reducible exact Bk.new _ _ _) | (with_reducible refine Bk.new1 ?_; first | rfl | (simp; done) | omega) | (with_reducible assumption) | (with_reducible refine Bk.alloc ?_ _) | (with_reducible refine Bk.drew ?_) | (with_reducible refine Bk.drewN ?_ _) | (with_reducible refine Bk.other ?_ ?_ _) | (with_reducible apply Bk.drewBy; with_reducible assumption) | (with_reducible apply Bk.viaB; with_reducible assumption) | omega | (simp; done))))
  have K2 : Kept (fun b => b = g) w w2 := K1.trans ((Kept.of (by (repeat' (first | (with_reducible exact Below.refl _ _) | (with_reducible refine Below.alloc ?_ ?_ _) | (with_reducible refine Below.drew ?_) | (with_reducible refine below_drewN ?_ _) | (with_reducible refine Below.setCell ?_ ?_ _) | (with_reducible refine below_via ‹_› ?_ ?_) | (with_reducible refine below_grow ?_ ?_ _ _) | omega | (simp; done) | (simp; omega))))).trans hd2.kept)
  have Q2 := hd2.src
  have c0 := P2.cell 1 rfl
  have f0 := P2.fr 1
  have P2' := P2.set 1 (.int .i64 y)
  have R2' := R2.other (q := w1.heap.size) (i := 1) (by omega) (.int .i64 y)
  have K2' := K2.setNew (q := w1.heap.size) (o := 1) (by omega) (.int .i64 y)
  have Q2' := Q2.setFar (q := w1.heap.size) (o := 1) (by omega) (.int .i64 y)
  simp only [List.set_cons_zero, List.set_cons_succ] at P2'
  clear hy hd1 R1 K1 R2 P2 K2 Q2 hd2
  go_wp2_with fail
  refine (c_text g (k + 2 + 2) _ _ _ (by (repeat' (first | (with_reducible assumption) | (with_reducible apply Drew.src; with_reducible assumption) | (with_reducible apply Src.viaB; with_reducible assumption) | (with_reducible refine Src.alloc ?_ _) | (with_reducible refine Src.setFar ?_ ?_ _) | (with_reducible refine Src.drew ?_) | (with_reducible refine Src.drewN ?_ _) | omega | (simp; done) | (simp; omega)))) (by omega) (by first | exact (lit_at (enc := encT) (fun _ => rfl) [⟨#[87]⟩, ⟨#[82]⟩, ⟨#[71]⟩, ⟨#[89]⟩, ⟨#[]⟩] rfl (by first | rfl | (simp; done)) (by first | omega | (simp; omega)) rfl rfl (by simp) (by simp)) | fail)).mono ?_
  rintro e w3 ⟨s, rfl, hs, hd3⟩
  have hs10 := letters5 hs
  have hz3 := hd3.size
  simp at hz3
  have R3 : Bk w3 w.heap.size 45 [.int .i64 0, .int .i64 0, .string ⟨#[]⟩] := (by (repeat' (first | (with_reducible exact Bk.new _ _ _) | (with_reducible refine Bk.new1 ?_; first | rfl | (simp; done) | omega) | (with_reducible assumption) | (with_reducible refine Bk.alloc ?_ _) | (with_reducible refine Bk.drew ?_) | (with_reducible refine Bk.drewN ?_ _) | (with_reducible refine Bk.other ?_ ?_ _) | (with_reducible apply Bk.drewBy; with_reducible assumption) | (with_reducible apply Bk.viaB; with_reducible assumption) | omega | (simp; done))))
  have P3 : Bk w3 w1.heap.size 45 [.int .i64 x, .int .i64 y, .string ⟨#[]⟩] := (by (repeat' (first | (with_reducible exact Bk.new _ _ _) | (with_reducible refine Bk.new1 ?_; first | rfl | (simp; done) | omega) | (with_reducible assumption) | (with_reducible refine Bk.alloc ?_ _) | (with_reducible refine Bk.drew ?_) | (with_reducible refine Bk.drewN ?_ _) | (with_reducible refine Bk.other ?_ ?_ _) | (with_reducible apply Bk.drewBy; with_reducible assumption) | (with_reducible apply Bk.viaB; with_reducible assumption) | omega | (simp; done))))
  have K3 : Kept (fun b => b = g) w w3 := K2'.trans ((Kept.of (by (repeat' (first | (with_reducible exact Below.refl _ _) | (with_reducible refine Below.alloc ?_ ?_ _) | (with_reducible refine Below.drew ?_) | (with_reducible refine below_drewN ?_ _) | (with_reducible refine Below.setCell ?_ ?_ _) | (with_reducible refine below_via ‹_› ?_ ?_) | (with_reducible refine below_grow ?_ ?_ _ _) | omega | (simp; done) | (simp; omega))))).trans hd3.kept)
  have Q3 := hd3.src
  have c1 := P3.cell 2 rfl
  have f1 := P3.fr 2
  have P3' := P3.set 2 (.string s)
  have R3' := R3.other (q := w1.heap.size) (i := 2) (by omega) (.string s)
  have K3' := K3.setNew (q := w1.heap.size) (o := 2) (by omega) (.string s)
  have Q3' := Q3.setFar (q := w1.heap.size) (o := 2) (by omega) (.string s)
  simp only [List.set_cons_zero, List.set_cons_succ] at P3'
  clear hs hd3 P2' R2' K2' Q2' R3 P3 K3 Q3 c0 f0
  go_wp2_with fail
  refine (c_pick g (k + 2 + 2 + 2) _ _ Q3' (by omega) (by omega)).mono ?_
  rintro e w4 ⟨p, rfl, hp, hd4⟩
  have hz4 := hd4.size
  rw [sizeSet] at hz4
  have R4 : Bk w4 w.heap.size 45 [.int .i64 0, .int .i64 0, .string ⟨#[]⟩] := (by (repeat' (first | (with_reducible exact Bk.new _ _ _) | (with_reducible refine Bk.new1 ?_; first | rfl | (simp; done) | omega) | (with_reducible assumption) | (with_reducible refine Bk.alloc ?_ _) | (with_reducible refine Bk.drew ?_) | (with_reducible refine Bk.drewN ?_ _) | (with_reducible refine Bk.other ?_ ?_ _) | (with_reducible apply Bk.drewBy; with_reducible assumption) | (with_reducible apply Bk.viaB; with_reducible assumption) | omega | (simp; done))))
  have P4 : Bk w4 w1.heap.size 45 [.int .i64 x, .int .i64 y, .string s] := (by (repeat' (first | (with_reducible exact Bk.new _ _ _) | (with_reducible refine Bk.new1 ?_; first | rfl | (simp; done) | omega) | (with_reducible assumption) | (with_reducible refine Bk.alloc ?_ _) | (with_reducible refine Bk.drew ?_) | (with_reducible refine Bk.drewN ?_ _) | (with_reducible refine Bk.other ?_ ?_ _) | (with_reducible apply Bk.drewBy; with_reducible assumption) | (with_reducible apply Bk.viaB; with_reducible assumption) | omega | (simp; done))))
  have K4 : Kept (fun b => b = g) w w4 := K3'.trans hd4.kept
  have Q4 := hd4.src
  have g0 := P4.cell 0 rfl
  clear hp hd4 R3' P3' K3' Q3' c1 f1
  by_cases h0 : p = 0
  · subst h0
    go_wp2_with fail
    refine (c_among g (k + 2 + 2 + 2 + 2) _ _ _ (by (repeat' (first | (with_reducible assumption) | (with_reducible apply Drew.src; with_reducible assumption) | (with_reducible apply Src.viaB; with_reducible assumption) | (with_reducible refine Src.alloc ?_ _) | (with_reducible refine Src.setFar ?_ ?_ _) | (with_reducible refine Src.drew ?_) | (with_reducible refine Src.drewN ?_ _) | omega | (simp; done) | (simp; omega)))) (by omega) (by first | exact (lit_at (enc := encI) (fun _ => rfl) [-1, 360] rfl (by first | rfl | (simp; done)) (by first | omega | (simp; omega)) rfl rfl (by simp) (by simp)) | exact Lit.drew (lit_at (enc := encI) (fun _ => rfl) [-1, 360] rfl (by first | rfl | (simp; done)) (by first | omega | (simp; omega)) rfl rfl (by simp) (by simp)) | fail)).mono ?_
    rintro e w5 ⟨n, rfl, hn, hd5⟩
    have hn2 : -1000 ≤ n ∧ n ≤ 1000 := by
      simp only [List.mem_cons, List.not_mem_nil, or_false] at hn
      rcases hn with rfl | rfl <;> omega
    have hz5 := hd5.size
    simp at hz5
    have R5 : Bk w5 w.heap.size 45 [.int .i64 0, .int .i64 0, .string ⟨#[]⟩] := (by (repeat' (first | (with_reducible exact Bk.new _ _ _) | (with_reducible refine Bk.new1 ?_; first | rfl | (simp; done) | omega) | (with_reducible assumption) | (with_reducible refine Bk.alloc ?_ _) | (with_reducible refine Bk.drew ?_) | (with_reducible refine Bk.drewN ?_ _) | (with_reducible refine Bk.other ?_ ?_ _) | (with_reducible apply Bk.drewBy; with_reducible assumption) | (with_reducible apply Bk.viaB; with_reducible assumption) | omega | (simp; done))))
    have P5 : Bk w5 w1.heap.size 45 [.int .i64 x, .int .i64 y, .string s] := (by (repeat' (first | (with_reducible exact Bk.new _ _ _) | (with_reducible refine Bk.new1 ?_; first | rfl | (simp; done) | omega) | (with_reducible assumption) | (with_reducible refine Bk.alloc ?_ _) | (with_reducible refine Bk.drew ?_) | (with_reducible refine Bk.drewN ?_ _) | (with_reducible refine Bk.other ?_ ?_ _) | (with_reducible apply Bk.drewBy; with_reducible assumption) | (with_reducible apply Bk.viaB; with_reducible assumption) | omega | (simp; done))))
    have K5 : Kept (fun b => b = g) w w5 := K4.trans ((Kept.of (by (repeat' (first | (with_reducible exact Below.refl _ _) | (with_reducible refine Below.alloc ?_ ?_ _) | (with_reducible refine Below.drew ?_) | (with_reducible refine below_drewN ?_ _) | (with_reducible refine Below.setCell ?_ ?_ _) | (with_reducible refine below_via ‹_› ?_ ?_) | (with_reducible refine below_grow ?_ ?_ _ _) | omega | (simp; done) | (simp; omega))))).trans hd5.kept)
    have Q5 := hd5.src
    have P6 := P5.set 0 (.int .i64 n)
    have R6 := R5.other (q := w1.heap.size) (i := 0) (by omega) (.int .i64 n)
    have K6 := K5.setNew (q := w1.heap.size) (o := 0) (by omega) (.int .i64 n)
    have Q6 := Q5.setFar (q := w1.heap.size) (o := 0) (by omega) (.int .i64 n)
    have d0 := P5.cell 0 rfl
    have e0 := P5.fr 0
    simp only [List.set_cons_zero, List.set_cons_succ] at P6
    have p0 := P6.cell 0 rfl
    have p1 := P6.cell 1 rfl
    have p2 := P6.cell 2 rfl
    have r0 := R6.cell 0 rfl
    have r1 := R6.cell 1 rfl
    have r2 := R6.cell 2 rfl
    have fr := R6.fr
    have HK := hid K6
    have HQ := hid Q6
    have hne : w.heap.size ≠ w1.heap.size := by omega
    clear R4 P4 K4 Q4 hd5 hn R5 P5 K5 Q5 P6 R6 K6 Q6 n1
    go_wp2_with fail
    refine bodyPost_ret (v := .agg #[.int .i64 n, .int .i64 y, .string s]) (by simp [results, Tryz.results48, go_sem, *]) rfl ⟨_, _, _, rfl, ⟨by simp only []; omega, by simp only []; omega, hs10⟩, Drew.mk' (Kept.setNew (Kept.setNew (Kept.setNew HK.out (Nat.le_refl _) _) (Nat.le_refl _) _) (Nat.le_refl _) _) (Src.setFar (Src.setFar (Src.setFar HQ.out (by omega) _) (by omega) _) (by omega) _) (by omega)⟩
  · have b0 : (p == 0) = false := by simpa using h0
    by_cases h1 : p = 1
    · subst h1
      go_wp2_with fail
      refine (c_among g (k + 2 + 2 + 2 + 2) _ _ _ (by (repeat' (first | (with_reducible assumption) | (with_reducible apply Drew.src; with_reducible assumption) | (with_reducible apply Src.viaB; with_reducible assumption) | (with_reducible refine Src.alloc ?_ _) | (with_reducible refine Src.setFar ?_ ?_ _) | (with_reducible refine Src.drew ?_) | (with_reducible refine Src.drewN ?_ _) | omega | (simp; done) | (simp; omega)))) (by omega) (by first | exact (lit_at (enc := encI) (fun _ => rfl) [-1, 360, x] rfl (by first | rfl | (simp; done)) (by first | omega | (simp; omega)) rfl rfl (by simp) (by simp)) | exact Lit.drew (lit_at (enc := encI) (fun _ => rfl) [-1, 360, x] rfl (by first | rfl | (simp; done)) (by first | omega | (simp; omega)) rfl rfl (by simp) (by simp)) | fail)).mono ?_
      rintro e w5 ⟨n, rfl, hn, hd5⟩
      have hn2 : -1000 ≤ n ∧ n ≤ 1000 := by
        simp only [List.mem_cons, List.not_mem_nil, or_false] at hn
        rcases hn with rfl | rfl | rfl <;> omega
      have hz5 := hd5.size
      simp at hz5
      have R5 : Bk w5 w.heap.size 45 [.int .i64 0, .int .i64 0, .string ⟨#[]⟩] := (by (repeat' (first | (with_reducible exact Bk.new _ _ _) | (with_reducible refine Bk.new1 ?_; first | rfl | (simp; done) | omega) | (with_reducible assumption) | (with_reducible refine Bk.alloc ?_ _) | (with_reducible refine Bk.drew ?_) | (with_reducible refine Bk.drewN ?_ _) | (with_reducible refine Bk.other ?_ ?_ _) | (with_reducible apply Bk.drewBy; with_reducible assumption) | (with_reducible apply Bk.viaB; with_reducible assumption) | omega | (simp; done))))
      have P5 : Bk w5 w1.heap.size 45 [.int .i64 x, .int .i64 y, .string s] := (by (repeat' (first | (with_reducible exact Bk.new _ _ _) | (with_reducible refine Bk.new1 ?_; first | rfl | (simp; done) | omega) | (with_reducible assumption) | (with_reducible refine Bk.alloc ?_ _) | (with_reducible refine Bk.drew ?_) | (with_reducible refine Bk.drewN ?_ _) | (with_reducible refine Bk.other ?_ ?_ _) | (with_reducible apply Bk.drewBy; with_reducible assumption) | (with_reducible apply Bk.viaB; with_reducible assumption) | omega | (simp; done))))
      have K5 : Kept (fun b => b = g) w w5 := K4.trans ((Kept.of (by (repeat' (first | (with_reducible exact Below.refl _ _) | (with_reducible refine Below.alloc ?_ ?_ _) | (with_reducible refine Below.drew ?_) | (with_reducible refine below_drewN ?_ _) | (with_reducible refine Below.setCell ?_ ?_ _) | (with_reducible refine below_via ‹_› ?_ ?_) | (with_reducible refine below_grow ?_ ?_ _ _) | omega | (simp; done) | (simp; omega))))).trans hd5.kept)
      have Q5 := hd5.src
      have P6 := P5.set 1 (.int .i64 n)
      have R6 := R5.other (q := w1.heap.size) (i := 1) (by omega) (.int .i64 n)
      have K6 := K5.setNew (q := w1.heap.size) (o := 1) (by omega) (.int .i64 n)
      have Q6 := Q5.setFar (q := w1.heap.size) (o := 1) (by omega) (.int .i64 n)
      have d0 := P5.cell 1 rfl
      have e0 := P5.fr 1
      simp only [List.set_cons_zero, List.set_cons_succ] at P6
      have p0 := P6.cell 0 rfl
      have p1 := P6.cell 1 rfl
      have p2 := P6.cell 2 rfl
      have r0 := R6.cell 0 rfl
      have r1 := R6.cell 1 rfl
      have r2 := R6.cell 2 rfl
      have fr := R6.fr
      have HK := hid K6
      have HQ := hid Q6
      have hne : w.heap.size ≠ w1.heap.size := by omega
      clear R4 P4 K4 Q4 hd5 hn R5 P5 K5 Q5 P6 R6 K6 Q6 n1
      go_wp2_with fail
      refine bodyPost_ret (v := .agg #[.int .i64 x, .int .i64 n, .string s]) (by simp [results, Tryz.results48, go_sem, *]) rfl ⟨_, _, _, rfl, ⟨by simp only []; omega, by simp only []; omega, hs10⟩, Drew.mk' (Kept.setNew (Kept.setNew (Kept.setNew HK.out (Nat.le_refl _) _) (Nat.le_refl _) _) (Nat.le_refl _) _) (Src.setFar (Src.setFar (Src.setFar HQ.out (by omega) _) (by omega) _) (by omega) _) (by omega)⟩
    · have b1 : (p == 1) = false := by simpa using h1
      by_cases h2 : p = 2
      · subst h2
        go_wp2_with fail
        refine (c_text g (k + 2 + 2 + 2 + 2) _ _ _ (by (repeat' (first | (with_reducible assumption) | (with_reducible apply Drew.src; with_reducible assumption) | (with_reducible apply Src.viaB; with_reducible assumption) | (with_reducible refine Src.alloc ?_ _) | (with_reducible refine Src.setFar ?_ ?_ _) | (with_reducible refine Src.drew ?_) | (with_reducible refine Src.drewN ?_ _) | omega | (simp; done) | (simp; omega)))) (by omega) (by first | exact (lit_at (enc := encT) (fun _ => rfl) [⟨#[66]⟩, ⟨#[82, 71]⟩] rfl (by first | rfl | (simp; done)) (by first | omega | (simp; omega)) rfl rfl (by simp) (by simp)) | exact Lit.drew (lit_at (enc := encT) (fun _ => rfl) [⟨#[66]⟩, ⟨#[82, 71]⟩] rfl (by first | rfl | (simp; done)) (by first | omega | (simp; omega)) rfl rfl (by simp) (by simp)) | fail)).mono ?_
        rintro e w5 ⟨n, rfl, hn, hd5⟩
        have hn10 := letters2 hn
        have hz5 := hd5.size
        simp at hz5
        have R5 : Bk w5 w.heap.size 45 [.int .i64 0, .int .i64 0, .string ⟨#[]⟩] := (by (repeat' (first | (with_reducible exact Bk.new _ _ _) | (with_reducible refine Bk.new1 ?_; first | rfl | (simp; done) | omega) | (with_reducible assumption) | (with_reducible refine Bk.alloc ?_ _) | (with_reducible refine Bk.drew ?_) | (with_reducible refine Bk.drewN ?_ _) | (with_reducible refine Bk.other ?_ ?_ _) | (with_reducible apply Bk.drewBy; with_reducible assumption) | (with_reducible apply Bk.viaB; with_reducible assumption) | omega | (simp; done))))
        have P5 : Bk w5 w1.heap.size 45 [.int .i64 x, .int .i64 y, .string s] := (by (repeat' (first | (with_reducible exact Bk.new _ _ _) | (with_reducible refine Bk.new1 ?_; first | rfl | (simp; done) | omega) | (with_reducible assumption) | (with_reducible refine Bk.alloc ?_ _) | (with_reducible refine Bk.drew ?_) | (with_reducible refine Bk.drewN ?_ _) | (with_reducible refine Bk.other ?_ ?_ _) | (with_reducible apply Bk.drewBy; with_reducible assumption) | (with_reducible apply Bk.viaB; with_reducible assumption) | omega | (simp; done))))
        have K5 : Kept (fun b => b = g) w w5 := K4.trans ((Kept.of (by (repeat' (first | (with_reducible exact Below.refl _ _) | (with_reducible refine Below.alloc ?_ ?_ _) | (with_reducible refine Below.drew ?_) | (with_reducible refine below_drewN ?_ _) | (with_reducible refine Below.setCell ?_ ?_ _) | (with_reducible refine below_via ‹_› ?_ ?_) | (with_reducible refine below_grow ?_ ?_ _ _) | omega | (simp; done) | (simp; omega))))).trans hd5.kept)
        have Q5 := hd5.src
        have P6 := P5.set 2 (.string n)
        have R6 := R5.other (q := w1.heap.size) (i := 2) (by omega) (.string n)
        have K6 := K5.setNew (q := w1.heap.size) (o := 2) (by omega) (.string n)
        have Q6 := Q5.setFar (q := w1.heap.size) (o := 2) (by omega) (.string n)
        have d0 := P5.cell 2 rfl
        have e0 := P5.fr 2
        simp only [List.set_cons_zero, List.set_cons_succ] at P6
        have p0 := P6.cell 0 rfl
        have p1 := P6.cell 1 rfl
        have p2 := P6.cell 2 rfl
        have r0 := R6.cell 0 rfl
        have r1 := R6.cell 1 rfl
        have r2 := R6.cell 2 rfl
        have fr := R6.fr
        have HK := hid K6
        have HQ := hid Q6
        have hne : w.heap.size ≠ w1.heap.size := by omega
        clear R4 P4 K4 Q4 hd5 hn R5 P5 K5 Q5 P6 R6 K6 Q6 n1
        go_wp2_with fail
        refine bodyPost_ret (v := .agg #[.int .i64 x, .int .i64 y, .string n]) (by simp [results, Tryz.results48, go_sem, *]) rfl ⟨_, _, _, rfl, ⟨by simp only []; omega, by simp only []; omega, hn10⟩, Drew.mk' (Kept.setNew (Kept.setNew (Kept.setNew HK.out (Nat.le_refl _) _) (Nat.le_refl _) _) (Nat.le_refl _) _) (Src.setFar (Src.setFar (Src.setFar HQ.out (by omega) _) (by omega) _) (by omega) _) (by omega)⟩
      · have b2 : (p == 2) = false := by simpa using h2
        have p0 := P4.cell 0 rfl
        have p1 := P4.cell 1 rfl
        have p2 := P4.cell 2 rfl
        have r0 := R4.cell 0 rfl
        have r1 := R4.cell 1 rfl
        have r2 := R4.cell 2 rfl
        have fr := R4.fr
        have HK := hid K4
        have HQ := hid Q4
        have hne : w.heap.size ≠ w1.heap.size := by omega
        clear R4 P4 K4 Q4 n1
        go_wp2_with fail
        refine bodyPost_ret (v := .agg #[.int .i64 x, .int .i64 y, .string s]) (by simp [results, Tryz.results48, go_sem, *]) rfl ⟨_, _, _, rfl, ⟨by simp only []; omega, by simp only []; omega, hs10⟩, Drew.mk' (Kept.setNew (Kept.setNew (Kept.setNew HK.out (Nat.le_refl _) _) (Nat.le_refl _) _) (Nat.le_refl _) _) (Src.setFar (Src.setFar (Src.setFar HQ.out (by omega) _) (by omega) _) (by omega) _) (by omega)⟩
def PaR (w : World) (e : Ending) (w' : World) : Prop := ∃ (u : Value) (xs : List SectorD) (f t : Int) (c : ByteArray), e = .returned (.tuple #[u, .agg #[.int .i64 f, .int .i64 t, .string c]]) ∧ Below w.heap.size w w' ∧ SlA w' 0 3 encSector u xs ∧ xs.length ≤ 13 ∧ (∀ x ∈ xs, smallS x) ∧ smallS ⟨f, t, c⟩
set_option maxHeartbeats 4000000 in
theorem c_DrawPaintSector (v0 : Value) (bs : List Int) (w : World) (h : SlA w 0 1 encU v0 bs) (hl : bs.length ≤ 1048576) (hb : ∀ x ∈ bs, 0 ≤ x ∧ x ≤ 255) :
    Calls Tryz.prog 17 #[v0] w (PaR w) := by
  obtain ⟨i0, hi, iz0, iz1, iz2⟩ := info_parts info_Sector
  go_enter Tryz.func17, Tryz.ntmps17
  go_wp2_with fail
  refine (c_l00From v0 bs _ (by first | (with_reducible assumption) | (with_reducible apply SlO.at; (with_reducible assumption); (repeat' (first | (with_reducible exact Below.refl _ _) | (with_reducible refine Below.alloc ?_ ?_ _) | (with_reducible refine Below.drew ?_) | (with_reducible refine below_drewN ?_ _) | (with_reducible refine Below.setCell ?_ ?_ _) | (with_reducible refine below_via ‹_› ?_ ?_) | (with_reducible refine below_grow ?_ ?_ _ _) | omega | (simp; done) | (simp; omega))); done) | (with_reducible apply SlA.at; (with_reducible assumption); (repeat' (first | (with_reducible exact Below.refl _ _) | (with_reducible refine Below.alloc ?_ ?_ _) | (with_reducible refine Below.drew ?_) | (with_reducible refine below_drewN ?_ _) | (with_reducible refine Below.setCell ?_ ?_ _) | (with_reducible refine below_via ‹_› ?_ ?_) | (with_reducible refine below_grow ?_ ?_ _ _) | omega | (simp; done) | (simp; omega))); done)) hl hb).mono ?_
  rintro e w1 ⟨g, rfl, hb1, hg, hs⟩
  have hz1 := hb1.size
  simp at hz1 hg
  have n0 : w.heap.size ≠ g := by omega
  have hgl := hs.lt
  have R1 : Bk w1 w.heap.size 45 [.int .i64 0, .int .i64 0, .string ⟨#[]⟩] := (Bk.new w _ _).below hb1
  have B1 : Below w.heap.size w w1 := by (repeat' (first | (with_reducible exact Below.refl _ _) | (with_reducible refine Below.alloc ?_ ?_ _) | (with_reducible refine Below.drew ?_) | (with_reducible refine below_drewN ?_ _) | (with_reducible refine Below.setCell ?_ ?_ _) | (with_reducible refine below_via ‹_› ?_ ?_) | (with_reducible refine below_grow ?_ ?_ _ _) | omega | (simp; done) | (simp; omega)))
  clear hb1
  go_wp2_with fail
  refine (c_one g 0 _ _ hs (by omega) (by omega)).mono ?_
  rintro e w2 ⟨bq, rfl, hd2⟩
  have hz2 := hd2.size
  have R2 : Bk w2 w.heap.size 45 [.int .i64 0, .int .i64 0, .string ⟨#[]⟩] := Bk.drewBy hd2 (by omega) R1
  have B2 : Below w.heap.size w w2 := B1.trans (hd2.kept.below (by omega) (fun k hk => by omega))
  have Q2 := hd2.src
  clear R1 B1 hs hd2
  cases bq
  · go_wp2_with fail
    refine (c_l08Draw g 2 _ Q2 (by omega)).mono ?_
    rintro e w3 ⟨u, xs, rfl, hA3, hQ3, hl3, hm3⟩
    have HM := hid hm3
    have hz3 := hA3.kept.size
    have R3 : Bk w3 w.heap.size 45 [.int .i64 0, .int .i64 0, .string ⟨#[]⟩] := R2.kept hA3.kept (by omega)
    have B3 : Below w.heap.size w w3 := B2.trans (hA3.kept.below (by omega) (fun k hk => by omega))
    have S3 := hA3.slo (fun _ => rfl)
    obtain ⟨adu, cpu, rfl⟩ := S3.1.form
    clear R2 B2 Q2 hm3
    go_wp2_with fail
    refine (c_l08DrawSector g (2 + 110) _ hQ3 (by omega)).mono ?_
    rintro e w4 ⟨f, t, c, rfl, hsm, hd4⟩
    have hz4 := hd4.size
    have R4 : Bk w4 w.heap.size 45 [.int .i64 0, .int .i64 0, .string ⟨#[]⟩] := Bk.drewBy hd4 (by omega) R3
    have B4 : Below w.heap.size w w4 := B3.trans (hd4.kept.below (by omega) (fun k hk => by omega))
    have S4 : SlO w4 w2.heap.size 3 encSector (.slice adu xs.length cpu) xs := S3.kept hd4.kept (fun b hb => by obtain ⟨-, q, -⟩ := S3.2 b hb; omega)
    have r0 := R4.cell 0 rfl
    have r1 := R4.cell 1 rfl
    have r2 := R4.cell 2 rfl
    have fr := R4.fr
    have HB := hid B4
    have HS := hid S4
    clear R3 B3 S3 hA3 hQ3 hd4 R4 B4 S4
    go_wp2_with fail
    refine bodyPost_ret (v := .tuple #[.slice adu xs.length cpu, .agg #[.int .i64 f, .int .i64 t, .string c]]) (by simp [results, Tryz.results17, go_sem, *]) rfl ⟨_, xs, f, t, c, rfl, ((HB.out.setCell (Nat.le_refl _) _).setCell (Nat.le_refl _) _).setCell (Nat.le_refl _) _, SlA.mono (lo := w2.heap.size) (And.left (((HS.out.setLt (by simp; omega) _).setLt (by simp; omega) _).setLt (by simp; omega) _)) (Nat.zero_le _), hl3, HM.out, hsm⟩
  · have A2 : AccD w2 g 45 3 encSector (w2.alloc (.cells #[] 45)) (.slice (some ⟨w2.heap.size, 0, none⟩) 0 0) ([] : List SectorD) := AccD.lit (Kept.refl _ _) (by omega) _ _ _
    have R2' := R2.alloc (.cells #[] 45)
    have Q2' := Q2.alloc (.cells #[] 45)
    have HB := hid B2
    clear R2 Q2 B2
    go_wp2_with fail
    go_loopw [5, 6] (fun v i wr => ∃ (j : Nat) (ys : List SectorD), i = .int .i64 j ∧ j ≤ 12 ∧ ys.length = j ∧ Hid (∀ x ∈ ys, smallS x) ∧ AccD w2 g 45 3 encSector wr v ys ∧ Src wr g 2 ∧ Bk wr w.heap.size 45 [.int .i64 0, .int .i64 0, .string ⟨#[]⟩]) (fun _ i _ => 12 - (intOf i).toNat)
    case atStart => exact ⟨0, [], rfl, by omega, rfl, hid (by simp), A2, Q2', R2'⟩
    case round =>
      clear A2 Q2' R2'
      obtain ⟨j, ys, rfl, hj, hyl, hok, hA, hQ, hR⟩ := hrel
      have hA' := hA
      by_cases hlt : j < 12
      · have hltI : (j : Int) < 12 := by omega
        have hy13 : ys.length ≤ 13 := by omega
        have HY := hid hyl
        have HA := hid hA
        have HR := hid hR
        clear hA hA' hyl hR
        go_wp2_with (at_builtin; refine wpList_pushD (α := SectorD) rfl (.tmp 17) (.tmp 24) 43 rfl i0 _ 32 Tryz.underlying43 hi iz0 iz1 iz2 rfl (by decide) (fun _ => rfl) (⟨20 * (j : Int), 20 * (j : Int) + 10, ⟨#[87]⟩⟩ : SectorD) rfl HA.out 45 1 (by first | rfl | (rw [size_drewN]; rfl) | (rw [World.size_alloc]; done) | (rw [World.size_alloc]; rfl) | (rw [sizeSet]; rfl) | (rw [sizeSet]; done)) (one_encS _) (by unfold maxLen; omega) (by omega) ?_; intro v4 w4 hA4 hK4 hat4)
        have hK4' : Kept (fun b => u5.ownBlock = some b) wr w4 := hK4
        have hR4 : Bk w4 w.heap.size 45 [.int .i64 0, .int .i64 0, .string ⟨#[]⟩] := HR.out.kept hK4' (fun e => by obtain ⟨-, q, -⟩ := (HA.out.slo (fun _ => rfl)).2 _ e; omega)
        go_roundw
        case rel => exact ⟨j + 1, _, by go_num, by omega, by simp; exact HY.out, hid (snocS hok.out ⟨by simp only []; omega, by simp only []; omega, (show (⟨#[87]⟩ : ByteArray).size ≤ 10 by decide)⟩), hA4, hQ.kept ((Kept.of (Below.refl _ _)).trans hK4) fun b hb => by have := HA.out.far b hb; omega, hR4⟩
        case measure => simp [intOf]; omega
      · have hltI : ¬ (j : Int) < 12 := by omega
        have hzr := hA.kept.size
        have S3 := hA.slo (fun _ => rfl)
        obtain ⟨adu, cpu, rfl⟩ := S3.1.form
        have HHA := hid hA'
        clear hA hA'
        go_wp2_with fail
        refine (c_pick g 2 _ _ hQ (by omega) (by omega)).mono ?_
        rintro e w4 ⟨x, rfl, hx, hd4⟩
        have hx0 := hx.1
        have hx1 := hx.2.1 (by omega)
        have hz4 := hd4.size
        have R4 : Bk w4 w.heap.size 45 [.int .i64 0, .int .i64 0, .string ⟨#[]⟩] := Bk.drewBy hd4 (by omega) hR
        have B4 : Below w.heap.size w w4 := HB.out.trans ((HHA.out.kept.below (by omega) (fun k hk => by omega)).trans (hd4.kept.below (by omega) (fun k hk => by omega)))
        have S4 : SlO w4 w2.heap.size 3 encSector (.slice adu ys.length cpu) ys := S3.kept hd4.kept (fun b hb => by obtain ⟨-, q, -⟩ := S3.2 b hb; omega)
        have r0 := R4.cell 0 rfl
        have r1 := R4.cell 1 rfl
        have r2 := R4.cell 2 rfl
        have fr := R4.fr
        have HB4 := hid B4
        have HS := hid S4
        clear hx hR hd4 R4 B4 S4 S3 hQ
        go_wp2_with fail
        refine bodyPost_ret (v := .tuple #[.slice adu ys.length cpu, .agg #[.int .i64 x, .int .i64 3, .string ⟨#[82]⟩]]) (by simp [results, Tryz.results17, go_sem, *]) rfl ⟨_, ys, x, 3, ⟨#[82]⟩, rfl, ((HB4.out.setCell (Nat.le_refl _) _).setCell (Nat.le_refl _) _).setCell (Nat.le_refl _) _, SlA.mono (lo := w2.heap.size) (And.left (((HS.out.setLt (by simp; omega) _).setLt (by simp; omega) _).setLt (by simp; omega) _)) (Nat.zero_le _), by omega, hok.out, ⟨by simp only []; omega, by simp only []; omega, (show (⟨#[82]⟩ : ByteArray).size ≤ 10 by decide)⟩⟩
end Go.Proofs.YtabbhlehbhadiaaGreatDoor
