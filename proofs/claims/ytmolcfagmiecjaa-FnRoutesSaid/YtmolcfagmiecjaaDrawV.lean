/- The reference's draws of a ship and of works: whatever is drawn is valid. -/
import Derived.Test.YtmolcfagmiecjaaDraw0
import Derived.Test.YtmolcfagmiecjaaOrder
import Derived.Test.YtmolcfagmiecjaaTravel
import Derived.Test.YtmolcfagmiecjaaTWork
import Derived.Deep.RegionHeld3
namespace Go.Proofs.Ytmolcfagmiecjaa
open Go.RowKit Go.Sort
set_option maxRecDepth 100000

set_option maxHeartbeats 1000000 in
theorem c_l25DrawShip (g k : Nat) (w : World) (h : Src w g k) (hk : k ≤ 1000000) :
    Calls Try.prog 57 #[.pointer (some ⟨g, 0, none⟩)] w fun e w' => ∃ (s : ByteArray) (a b c : Int), e = .returned (.agg #[.string s, .int .i64 a, .int .i64 b, .int .i64 c]) ∧ shipB s a b c = true ∧ s.size ≤ maxLen ∧ Drew g (k + 8) w w' := by
  have hg := h.lt
  have n0 : w.heap.size ≠ g := by omega
  go_enter Try.func57, Try.ntmps57
  go_wp2_with fail
  refine (c_text g k _ _ _ (by (repeat' (first | (with_reducible assumption) | (with_reducible apply Drew.src; with_reducible assumption) | (with_reducible apply Src.viaB; with_reducible assumption) | (with_reducible refine Src.alloc ?_ _) | (with_reducible refine Src.setFar ?_ ?_ _) | (with_reducible refine Src.drew ?_) | (with_reducible refine Src.drewN ?_ _) | omega | (simp; done) | (simp; omega)))) (by omega) (by first | exact (lit_at (enc := encT) (fun _ => rfl) [⟨#[116, 101, 114, 110]⟩, ⟨#[115, 107, 117, 97]⟩, ⟨#[97, 117, 107]⟩] rfl (by first | rfl | (simp; done)) (by first | omega | (simp; omega)) rfl rfl (by simp) (by simp)) | exact Lit.drew (lit_at (enc := encT) (fun _ => rfl) [⟨#[116, 101, 114, 110]⟩, ⟨#[115, 107, 117, 97]⟩, ⟨#[97, 117, 107]⟩] rfl (by first | rfl | (simp; done)) (by first | omega | (simp; omega)) rfl rfl (by simp) (by simp)) | fail)).mono ?_
  rintro e w1 ⟨s, rfl, hs, hd1⟩
  have HS := hid hs
  clear hs
  have R1 : Bk w1 w.heap.size 25 [.string ⟨#[]⟩, .int .i64 0, .int .i64 0, .int .i64 0] := (by (repeat' (first | (with_reducible exact Bk.new _ _ _) | (with_reducible refine Bk.new1 ?_; first | rfl | (simp; done) | omega) | (with_reducible assumption) | (with_reducible refine Bk.alloc ?_ _) | (with_reducible refine Bk.drew ?_) | (with_reducible refine Bk.drewN ?_ _) | (with_reducible refine Bk.other ?_ ?_ _) | (with_reducible apply Bk.drewBy; with_reducible assumption) | (with_reducible apply Bk.viaB; with_reducible assumption) | omega | (simp; done))))
  have hz1 := hd1.size
  simp at hz1
  go_wp2_with fail
  refine (c_pick g (k + 2) _ _ hd1.src (by omega) (by omega)).mono ?_
  rintro e w2 ⟨x, rfl, hx, hd2⟩
  have hx3 : x < 300 := hx.2.1 (by omega)
  have hx0 := hx.1
  have R2 : Bk w2 w.heap.size 25 [.string ⟨#[]⟩, .int .i64 0, .int .i64 0, .int .i64 0] := (by (repeat' (first | (with_reducible exact Bk.new _ _ _) | (with_reducible refine Bk.new1 ?_; first | rfl | (simp; done) | omega) | (with_reducible assumption) | (with_reducible refine Bk.alloc ?_ _) | (with_reducible refine Bk.drew ?_) | (with_reducible refine Bk.drewN ?_ _) | (with_reducible refine Bk.other ?_ ?_ _) | (with_reducible apply Bk.drewBy; with_reducible assumption) | (with_reducible apply Bk.viaB; with_reducible assumption) | omega | (simp; done))))
  have hz2 := hd2.size
  clear hx
  go_wp2_with fail
  refine (c_among g (k + 4) _ _ _ (by (repeat' (first | (with_reducible assumption) | (with_reducible apply Drew.src; with_reducible assumption) | (with_reducible apply Src.viaB; with_reducible assumption) | (with_reducible refine Src.alloc ?_ _) | (with_reducible refine Src.setFar ?_ ?_ _) | (with_reducible refine Src.drew ?_) | (with_reducible refine Src.drewN ?_ _) | omega | (simp; done) | (simp; omega)))) (by omega) (by first | exact (lit_at (enc := encI) (fun _ => rfl) [5, 20, 60, 1000] rfl (by first | rfl | (simp; done)) (by first | omega | (simp; omega)) rfl rfl (by simp) (by simp)) | exact Lit.drew (lit_at (enc := encI) (fun _ => rfl) [5, 20, 60, 1000] rfl (by first | rfl | (simp; done)) (by first | omega | (simp; omega)) rfl rfl (by simp) (by simp)) | fail)).mono ?_
  rintro e w3 ⟨y, rfl, hy, hd3⟩
  have hy2 : 0 ≤ y ∧ y ≤ 1000 := by simp at hy; omega
  have R3 : Bk w3 w.heap.size 25 [.string ⟨#[]⟩, .int .i64 0, .int .i64 0, .int .i64 0] := (by (repeat' (first | (with_reducible exact Bk.new _ _ _) | (with_reducible refine Bk.new1 ?_; first | rfl | (simp; done) | omega) | (with_reducible assumption) | (with_reducible refine Bk.alloc ?_ _) | (with_reducible refine Bk.drew ?_) | (with_reducible refine Bk.drewN ?_ _) | (with_reducible refine Bk.other ?_ ?_ _) | (with_reducible apply Bk.drewBy; with_reducible assumption) | (with_reducible apply Bk.viaB; with_reducible assumption) | omega | (simp; done))))
  have B3 : Bk w3 w2.heap.size 25 [.string s, .int .i64 (100 + x), .int .i64 0, .int .i64 0] := (by (repeat' (first | (with_reducible exact Bk.new _ _ _) | (with_reducible refine Bk.new1 ?_; first | rfl | (simp; done) | omega) | (with_reducible assumption) | (with_reducible refine Bk.alloc ?_ _) | (with_reducible refine Bk.drew ?_) | (with_reducible refine Bk.drewN ?_ _) | (with_reducible refine Bk.other ?_ ?_ _) | (with_reducible apply Bk.drewBy; with_reducible assumption) | (with_reducible apply Bk.viaB; with_reducible assumption) | omega | (simp; done))))
  have hz3 := hd3.size
  simp at hz3
  have b2 := B3.cell 2 rfl
  have fb := B3.fr 2
  go_wp2_with fail
  refine (c_pick g (k + 6) _ _ (by (repeat' (first | (with_reducible assumption) | (with_reducible apply Drew.src; with_reducible assumption) | (with_reducible apply Src.viaB; with_reducible assumption) | (with_reducible refine Src.alloc ?_ _) | (with_reducible refine Src.setFar ?_ ?_ _) | (with_reducible refine Src.drew ?_) | (with_reducible refine Src.drewN ?_ _) | omega | (simp; done) | (simp; omega)))) (by omega) (by omega)).mono ?_
  rintro e w4 ⟨z, rfl, hz', hd4⟩
  have hz3 : z < 30 := hz'.2.1 (by omega)
  have hz0 := hz'.1
  clear hz' hy b2 fb
  have R4 : Bk w4 w.heap.size 25 [.string ⟨#[]⟩, .int .i64 0, .int .i64 0, .int .i64 0] := (by (repeat' (first | (with_reducible exact Bk.new _ _ _) | (with_reducible refine Bk.new1 ?_; first | rfl | (simp; done) | omega) | (with_reducible assumption) | (with_reducible refine Bk.alloc ?_ _) | (with_reducible refine Bk.drew ?_) | (with_reducible refine Bk.drewN ?_ _) | (with_reducible refine Bk.other ?_ ?_ _) | (with_reducible apply Bk.drewBy; with_reducible assumption) | (with_reducible apply Bk.viaB; with_reducible assumption) | omega | (simp; done))))
  have B4 : Bk w4 w2.heap.size 25 [.string s, .int .i64 (100 + x), .int .i64 y, .int .i64 0] := Bk.drewBy hd4 (by omega) (B3.set 2 (.int .i64 y))
  have b0 := B4.cell 0 rfl
  have b1 := B4.cell 1 rfl
  have b2 := B4.cell 2 rfl
  have b3 := B4.cell 3 rfl
  have fb := B4.fr
  have r0 := R4.cell 0 rfl
  have r1 := R4.cell 1 rfl
  have r2 := R4.cell 2 rfl
  have r3 := R4.cell 3 rfl
  have fr := R4.fr
  have n1 : w.heap.size ≠ w2.heap.size := by omega
  go_wp2_with fail
  refine bodyPost_ret (v := .agg #[.string s, .int .i64 (100 + x), .int .i64 y, .int .i64 (20 + z)]) (by simp [results, Try.results57, go_sem, *]) rfl ⟨s, 100 + x, y, 20 + z, rfl, ?_, ?_, Drew.mk' (by (repeat' (first | (with_reducible exact Kept.refl _ _) | (with_reducible refine Kept.alloc' ?_ _) | (with_reducible refine Kept.setNew ?_ ?_ _) | (with_reducible refine Kept.drew ?_) | (with_reducible refine Kept.drewN ?_ _) | (with_reducible apply Kept.viaD; with_reducible assumption) | (with_reducible apply Kept.viaB; with_reducible assumption) | (with_reducible apply Kept.viaO; with_reducible assumption) | omega | (simp; done) | (simp; omega)))) (k' := k + 6 + 2) (by (repeat' (first | (with_reducible assumption) | (with_reducible apply Drew.src; with_reducible assumption) | (with_reducible apply Src.viaB; with_reducible assumption) | (with_reducible refine Src.alloc ?_ _) | (with_reducible refine Src.setFar ?_ ?_ _) | (with_reducible refine Src.drew ?_) | (with_reducible refine Src.drewN ?_ _) | omega | (simp; done) | (simp; omega)))) (by omega)⟩
  · have h1 : nameB s = true := by
      have hs := HS.out
      simp only [List.mem_cons, List.not_mem_nil, or_false] at hs
      rcases hs with rfl | rfl | rfl <;> (simp only [nameB, ByteArray.toList_eq]; decide)
    simp [shipB, h1, inB]; omega
  · have hs := HS.out
    simp only [List.mem_cons, List.not_mem_nil, or_false] at hs
    unfold maxLen
    rcases hs with rfl | rfl | rfl <;> decide
set_option maxHeartbeats 1000000 in
theorem c_l25Place (g k : Nat) (w : World) (h : Src w g k) (hk : k ≤ 1000000) :
    Calls Try.prog 114 #[.pointer (some ⟨g, 0, none⟩)] w fun e w' => ∃ (x y : Int), e = .returned (.agg #[.int .i64 x, .int .i64 y]) ∧ 10000 ≤ x ∧ x ≤ 30000 ∧ 10000 ≤ y ∧ y ≤ 30000 ∧ Drew g (k + 4) w w' := by
  have hg := h.lt
  have n0 : w.heap.size ≠ g := by omega
  go_enter Try.func114, Try.ntmps114
  go_wp2_with fail
  refine (c_pick g k _ _ (by (repeat' (first | (with_reducible assumption) | (with_reducible apply Drew.src; with_reducible assumption) | (with_reducible apply Src.viaB; with_reducible assumption) | (with_reducible refine Src.alloc ?_ _) | (with_reducible refine Src.setFar ?_ ?_ _) | (with_reducible refine Src.drew ?_) | (with_reducible refine Src.drewN ?_ _) | omega | (simp; done) | (simp; omega)))) (by omega) (by omega)).mono ?_
  rintro e w1 ⟨x, rfl, hx, hd1⟩
  have hx3 : x < 200 := hx.2.1 (by omega)
  have hx0 := hx.1
  have R1 : Bk w1 w.heap.size 33 [.int .i64 0, .int .i64 0] := (by (repeat' (first | (with_reducible exact Bk.new _ _ _) | (with_reducible refine Bk.new1 ?_; first | rfl | (simp; done) | omega) | (with_reducible assumption) | (with_reducible refine Bk.alloc ?_ _) | (with_reducible refine Bk.drew ?_) | (with_reducible refine Bk.drewN ?_ _) | (with_reducible refine Bk.other ?_ ?_ _) | (with_reducible apply Bk.drewBy; with_reducible assumption) | (with_reducible apply Bk.viaB; with_reducible assumption) | omega | (simp; done))))
  have hz1 := hd1.size
  simp at hz1
  clear hx
  go_wp2_with fail
  refine (c_pick g (k + 2) _ _ hd1.src (by omega) (by omega)).mono ?_
  rintro e w2 ⟨y, rfl, hy, hd2⟩
  have hy3 : y < 200 := hy.2.1 (by omega)
  have hy0 := hy.1
  have R2 : Bk w2 w.heap.size 33 [.int .i64 0, .int .i64 0] := (by (repeat' (first | (with_reducible exact Bk.new _ _ _) | (with_reducible refine Bk.new1 ?_; first | rfl | (simp; done) | omega) | (with_reducible assumption) | (with_reducible refine Bk.alloc ?_ _) | (with_reducible refine Bk.drew ?_) | (with_reducible refine Bk.drewN ?_ _) | (with_reducible refine Bk.other ?_ ?_ _) | (with_reducible apply Bk.drewBy; with_reducible assumption) | (with_reducible apply Bk.viaB; with_reducible assumption) | omega | (simp; done))))
  have r0 := R2.cell 0 rfl
  have r1 := R2.cell 1 rfl
  have fr := R2.fr
  have hz2 := hd2.size
  clear hy
  go_wp2_with fail
  refine bodyPost_ret (v := .agg #[.int .i64 (10000 + 100 * x), .int .i64 (10000 + 100 * y)]) (by simp [results, Try.results114, go_sem, *]) rfl ⟨_, _, rfl, by omega, by omega, by omega, by omega, Drew.mk' (by (repeat' (first | (with_reducible exact Kept.refl _ _) | (with_reducible refine Kept.alloc' ?_ _) | (with_reducible refine Kept.setNew ?_ ?_ _) | (with_reducible refine Kept.drew ?_) | (with_reducible refine Kept.drewN ?_ _) | (with_reducible apply Kept.viaD; with_reducible assumption) | (with_reducible apply Kept.viaB; with_reducible assumption) | (with_reducible apply Kept.viaO; with_reducible assumption) | omega | (simp; done) | (simp; omega)))) (k' := k + 2 + 2) (by (repeat' (first | (with_reducible assumption) | (with_reducible apply Drew.src; with_reducible assumption) | (with_reducible apply Src.viaB; with_reducible assumption) | (with_reducible refine Src.alloc ?_ _) | (with_reducible refine Src.setFar ?_ ?_ _) | (with_reducible refine Src.drew ?_) | (with_reducible refine Src.drewN ?_ _) | omega | (simp; done) | (simp; omega)))) (by omega)⟩
def drawnW (s : ByteArray) (d : WorkD) : Prop := d.fName = s ∧ 10000 ≤ d.fAtX ∧ d.fAtX ≤ 30000 ∧ 10000 ≤ d.fAtY ∧ d.fAtY ≤ 30000 ∧ 0 ≤ d.fLoad ∧ d.fLoad ≤ 12 ∧ 10 ≤ d.fMinutes ∧ d.fMinutes ≤ 110 ∧ 0 ≤ d.fFrom ∧ d.fFrom ≤ 400 ∧ d.fFrom + d.fMinutes ≤ d.fUntil ∧ d.fUntil ≤ 2510
set_option maxHeartbeats 1000000 in
theorem c_l25DrawWork (g k : Nat) (s : ByteArray) (w : World) (h : Src w g k) (hk : k ≤ 1000000) :
    Calls Try.prog 98 #[.pointer (some ⟨g, 0, none⟩), .string s] w fun e w' => ∃ d : WorkD, e = .returned (.agg (encWork d).toArray) ∧ drawnW s d ∧ Drew g (k + 12) w w' := by
  have hg := h.lt
  have n0 : w.heap.size ≠ g := by omega
  go_enter Try.func98, Try.ntmps98
  go_wp2_with fail
  refine (c_l25Place g k _ (by (repeat' (first | (with_reducible assumption) | (with_reducible apply Drew.src; with_reducible assumption) | (with_reducible apply Src.viaB; with_reducible assumption) | (with_reducible refine Src.alloc ?_ _) | (with_reducible refine Src.setFar ?_ ?_ _) | (with_reducible refine Src.drew ?_) | (with_reducible refine Src.drewN ?_ _) | omega | (simp; done) | (simp; omega)))) (by omega)).mono ?_
  rintro e w1 ⟨X, Y, rfl, x0, x1, y0, y1, hd1⟩
  have hz1 := hd1.size
  simp at hz1
  have n1 : w1.heap.size ≠ g := by omega
  go_wp2_with fail
  refine (c_pick g (k + 4) _ _ (by (repeat' (first | (with_reducible assumption) | (with_reducible apply Drew.src; with_reducible assumption) | (with_reducible apply Src.viaB; with_reducible assumption) | (with_reducible refine Src.alloc ?_ _) | (with_reducible refine Src.setFar ?_ ?_ _) | (with_reducible refine Src.drew ?_) | (with_reducible refine Src.drewN ?_ _) | omega | (simp; done) | (simp; omega)))) (by omega) (by omega)).mono ?_
  rintro e w2 ⟨l, rfl, hx, hd2⟩
  have hl1 : l < 12 := hx.2.1 (by omega)
  have hl0 := hx.1
  have hz2 := hd2.size
  simp at hz2
  clear hx
  have B2 : Bk w2 w1.heap.size 44 [.string s, .int .i64 X, .int .i64 Y, .int .i64 0, .int .i64 0, .int .i64 0, .int .i64 0] := (by (repeat' (first | (with_reducible exact Bk.new _ _ _) | (with_reducible refine Bk.new1 ?_; first | rfl | (simp; done) | omega) | (with_reducible assumption) | (with_reducible refine Bk.alloc ?_ _) | (with_reducible refine Bk.drew ?_) | (with_reducible refine Bk.drewN ?_ _) | (with_reducible refine Bk.other ?_ ?_ _) | (with_reducible apply Bk.drewBy; with_reducible assumption) | (with_reducible apply Bk.viaB; with_reducible assumption) | omega | (simp; done))))
  have R2 : Bk w2 w.heap.size 44 [.string ⟨#[]⟩, .int .i64 0, .int .i64 0, .int .i64 0, .int .i64 0, .int .i64 0, .int .i64 0] := (by (repeat' (first | (with_reducible exact Bk.new _ _ _) | (with_reducible refine Bk.new1 ?_; first | rfl | (simp; done) | omega) | (with_reducible assumption) | (with_reducible refine Bk.alloc ?_ _) | (with_reducible refine Bk.drew ?_) | (with_reducible refine Bk.drewN ?_ _) | (with_reducible refine Bk.other ?_ ?_ _) | (with_reducible apply Bk.drewBy; with_reducible assumption) | (with_reducible apply Bk.viaB; with_reducible assumption) | omega | (simp; done))))
  have bc := B2.cell 3 rfl
  have bf := B2.fr 3
  go_wp2_with fail
  refine (c_pick g (k + 6) _ _ (by (repeat' (first | (with_reducible assumption) | (with_reducible apply Drew.src; with_reducible assumption) | (with_reducible apply Src.viaB; with_reducible assumption) | (with_reducible refine Src.alloc ?_ _) | (with_reducible refine Src.setFar ?_ ?_ _) | (with_reducible refine Src.drew ?_) | (with_reducible refine Src.drewN ?_ _) | omega | (simp; done) | (simp; omega)))) (by omega) (by omega)).mono ?_
  rintro e w3 ⟨m, rfl, hx, hd3⟩
  have hm1 : m < 100 := hx.2.1 (by omega)
  have hm0 := hx.1
  have hz3 := hd3.size
  rw [size_put] at hz3
  clear hx bc bf
  have B3 : Bk w3 w1.heap.size 44 [.string s, .int .i64 X, .int .i64 Y, .int .i64 l, .int .i64 0, .int .i64 0, .int .i64 0] := Bk.drewBy hd3 (by omega) (B2.set 3 _)
  have R3 : Bk w3 w.heap.size 44 [.string ⟨#[]⟩, .int .i64 0, .int .i64 0, .int .i64 0, .int .i64 0, .int .i64 0, .int .i64 0] := (by (repeat' (first | (with_reducible exact Bk.new _ _ _) | (with_reducible refine Bk.new1 ?_; first | rfl | (simp; done) | omega) | (with_reducible assumption) | (with_reducible refine Bk.alloc ?_ _) | (with_reducible refine Bk.drew ?_) | (with_reducible refine Bk.drewN ?_ _) | (with_reducible refine Bk.other ?_ ?_ _) | (with_reducible apply Bk.drewBy; with_reducible assumption) | (with_reducible apply Bk.viaB; with_reducible assumption) | omega | (simp; done))))
  have bc := B3.cell 4 rfl
  have bf := B3.fr 4
  go_wp2_with fail
  refine (c_among g (k + 8) _ _ _ (by (repeat' (first | (with_reducible assumption) | (with_reducible apply Drew.src; with_reducible assumption) | (with_reducible apply Src.viaB; with_reducible assumption) | (with_reducible refine Src.alloc ?_ _) | (with_reducible refine Src.setFar ?_ ?_ _) | (with_reducible refine Src.drew ?_) | (with_reducible refine Src.drewN ?_ _) | omega | (simp; done) | (simp; omega)))) (by omega) (by first | exact (lit_at (enc := encI) (fun _ => rfl) [0, 0, 60, 200, 400] rfl (by first | rfl | (simp; done)) (by first | omega | (simp; omega)) rfl rfl (by simp) (by simp)) | exact Lit.drew (lit_at (enc := encI) (fun _ => rfl) [0, 0, 60, 200, 400] rfl (by first | rfl | (simp; done)) (by first | omega | (simp; omega)) rfl rfl (by simp) (by simp)) | fail)).mono ?_
  rintro e w4 ⟨f, rfl, hf, hd4⟩
  have hf2 : 0 ≤ f ∧ f ≤ 400 := by simp at hf; omega
  have hz4 := hd4.size
  rw [World.size_alloc, size_put] at hz4
  clear hf bc bf
  have B4 : Bk w4 w1.heap.size 44 [.string s, .int .i64 X, .int .i64 Y, .int .i64 l, .int .i64 (10 + m), .int .i64 0, .int .i64 0] := Bk.drewBy hd4 (by omega) (Bk.alloc (B3.set 4 _) _)
  have R4 : Bk w4 w.heap.size 44 [.string ⟨#[]⟩, .int .i64 0, .int .i64 0, .int .i64 0, .int .i64 0, .int .i64 0, .int .i64 0] := (by (repeat' (first | (with_reducible exact Bk.new _ _ _) | (with_reducible refine Bk.new1 ?_; first | rfl | (simp; done) | omega) | (with_reducible assumption) | (with_reducible refine Bk.alloc ?_ _) | (with_reducible refine Bk.drew ?_) | (with_reducible refine Bk.drewN ?_ _) | (with_reducible refine Bk.other ?_ ?_ _) | (with_reducible apply Bk.drewBy; with_reducible assumption) | (with_reducible apply Bk.viaB; with_reducible assumption) | omega | (simp; done))))
  have bc := B4.cell 5 rfl
  have bf := B4.fr 5
  go_wp2_with fail
  clear bc bf
  have B5 : Bk (w4.setCell ⟨w1.heap.size, 5, none⟩ (.int .i64 f)) w1.heap.size 44 [.string s, .int .i64 X, .int .i64 Y, .int .i64 l, .int .i64 (10 + m), .int .i64 f, .int .i64 0] := B4.set 5 _
  have R5 : Bk (w4.setCell ⟨w1.heap.size, 5, none⟩ (.int .i64 f)) w.heap.size 44 [.string ⟨#[]⟩, .int .i64 0, .int .i64 0, .int .i64 0, .int .i64 0, .int .i64 0, .int .i64 0] := (by (repeat' (first | (with_reducible exact Bk.new _ _ _) | (with_reducible refine Bk.new1 ?_; first | rfl | (simp; done) | omega) | (with_reducible assumption) | (with_reducible refine Bk.alloc ?_ _) | (with_reducible refine Bk.drew ?_) | (with_reducible refine Bk.drewN ?_ _) | (with_reducible refine Bk.other ?_ ?_ _) | (with_reducible apply Bk.drewBy; with_reducible assumption) | (with_reducible apply Bk.viaB; with_reducible assumption) | omega | (simp; done))))
  have K5 : Kept (fun b => b = g) w (w4.setCell ⟨w1.heap.size, 5, none⟩ (.int .i64 f)) := by (repeat' (first | (with_reducible exact Kept.refl _ _) | (with_reducible refine Kept.alloc' ?_ _) | (with_reducible refine Kept.setNew ?_ ?_ _) | (with_reducible refine Kept.drew ?_) | (with_reducible refine Kept.drewN ?_ _) | (with_reducible apply Kept.viaD; with_reducible assumption) | (with_reducible apply Kept.viaB; with_reducible assumption) | (with_reducible apply Kept.viaO; with_reducible assumption) | omega | (simp; done) | (simp; omega)))
  have S5 : Src (w4.setCell ⟨w1.heap.size, 5, none⟩ (.int .i64 f)) g (k + 8 + 2) := by (repeat' (first | (with_reducible assumption) | (with_reducible apply Drew.src; with_reducible assumption) | (with_reducible apply Src.viaB; with_reducible assumption) | (with_reducible refine Src.alloc ?_ _) | (with_reducible refine Src.setFar ?_ ?_ _) | (with_reducible refine Src.drew ?_) | (with_reducible refine Src.drewN ?_ _) | omega | (simp; done) | (simp; omega)))
  obtain ⟨W, hW⟩ : ∃ z, z = w4.setCell ⟨w1.heap.size, 5, none⟩ (.int .i64 f) := ⟨_, rfl⟩
  rw [← hW] at B5 R5 K5 S5 ⊢
  have hzW : w4.heap.size = W.heap.size := by rw [hW, size_put]
  clear hW hd1 hd2 hd3 hd4 B2 B3 B4 R2 R3 R4
  obtain ⟨cs, hcs⟩ : ∃ z : List Value, z = [.string s, .int .i64 X, .int .i64 Y, .int .i64 l, .int .i64 (10 + m), .int .i64 f, .int .i64 0] := ⟨_, rfl⟩
  rw [← hcs] at B5
  have hc4 : cs[4]? = some (.int .i64 (10 + m)) := by rw [hcs]; rfl
  have hc5 : cs[5]? = some (.int .i64 f) := by rw [hcs]; rfl
  have hcl : 6 < cs.length := by rw [hcs]; simp
  have hwt : IntKind.i64.wrap (f + (10 + m)) = f + (10 + m) := IntWalk.i64_in _ (by omega)
  have k5 : ∀ w', Row1 g w1.heap.size 6 44 cs W w' → w'.cell? ⟨w1.heap.size, 5, none⟩ = some (.int .i64 f) := fun w' h => h.cell (by decide) hc5
  have k4 : ∀ w', Row1 g w1.heap.size 6 44 cs W w' → w'.cell? ⟨w1.heap.size, 4, none⟩ = some (.int .i64 (10 + m)) := fun w' h => h.cell (by decide) hc4
  have hgW := S5.lt
  have HC := hid hcs
  have HR := hid R5
  have HB := B5
  clear R5 hcs hc4 hc5
  go_region_held3 (fun w' => Row1 g w1.heap.size 6 44 cs W w') ((repeat' (first | (with_reducible assumption) | (with_reducible refine Row1.alloc ?_ _) | (with_reducible refine Row1.drew ?_) | (with_reducible refine Row1.drewN ?_ _) | (with_reducible refine Row1.store ?_ _) | (with_reducible apply Row1.by; with_reducible assumption) | (with_reducible refine Row1.refl ?_ ?_) | omega))) (first | (go_at_call 97; refine (c_among g (k + 10) _ _ _ (by (repeat' (first | (with_reducible assumption) | (with_reducible apply Drew.src; with_reducible assumption) | (with_reducible apply Src.viaB; with_reducible assumption) | (with_reducible refine Src.alloc ?_ _) | (with_reducible refine Src.setFar ?_ ?_ _) | (with_reducible refine Src.drew ?_) | (with_reducible refine Src.drewN ?_ _) | omega | (simp; done) | (simp; omega)))) (by omega) (by first | exact (lit_at (enc := encI) (fun _ => rfl) [100, 300, 600, 2000] rfl (by first | rfl | (simp; done)) (by first | omega | (simp; omega)) rfl rfl (by simp) (by simp)) | exact Lit.drew (lit_at (enc := encI) (fun _ => rfl) [100, 300, 600, 2000] rfl (by first | rfl | (simp; done)) (by first | omega | (simp; omega)) rfl rfl (by simp) (by simp)) | fail)).mono ?_; rintro e w5 ⟨u, rfl, hu, hd5⟩; have hu2 : 100 ≤ u ∧ u ≤ 2000 := (by simp at hu; omega); clear hu; have hwu : IntKind.i64.wrap (f + (10 + m) + u) = f + (10 + m) + u := IntWalk.i64_in _ (by omega); have HO : Row1 g w1.heap.size 6 44 cs W w5 := (by (repeat' (first | (with_reducible assumption) | (with_reducible refine Row1.alloc ?_ _) | (with_reducible refine Row1.drew ?_) | (with_reducible refine Row1.drewN ?_ _) | (with_reducible refine Row1.store ?_ _) | (with_reducible apply Row1.by; with_reducible assumption) | (with_reducible refine Row1.refl ?_ ?_) | omega))); obtain ⟨u6, bq⟩ := HO.last hcl; have bq2 := HO.fr 6) | fail)
  clear hwt hwu k4 k5 bq bq2
  have B6 := HO.put (.int .i64 (f + (10 + m) + u))
  rw [HC.out] at B6
  have R6 : Bk (w5.setCell ⟨w1.heap.size, 6, none⟩ (.int .i64 (f + (10 + m) + u))) w.heap.size 44 [.string ⟨#[]⟩, .int .i64 0, .int .i64 0, .int .i64 0, .int .i64 0, .int .i64 0, .int .i64 0] := Bk.other (HO.keep HR.out (by omega) (by omega)) (by omega) _
  have K6 : Kept (fun b => b = g) w (w5.setCell ⟨w1.heap.size, 6, none⟩ (.int .i64 (f + (10 + m) + u))) := Kept.setNew (HO.new K5 (by omega)) (by omega) _
  have S6 : Src (w5.setCell ⟨w1.heap.size, 6, none⟩ (.int .i64 (f + (10 + m) + u))) g (k + 10 + 2) := by (repeat' (first | (with_reducible assumption) | (with_reducible apply Drew.src; with_reducible assumption) | (with_reducible apply Src.viaB; with_reducible assumption) | (with_reducible refine Src.alloc ?_ _) | (with_reducible refine Src.setFar ?_ ?_ _) | (with_reducible refine Src.drew ?_) | (with_reducible refine Src.drewN ?_ _) | omega | (simp; done) | (simp; omega)))
  obtain ⟨V, hV⟩ : ∃ z, z = w5.setCell ⟨w1.heap.size, 6, none⟩ (.int .i64 (f + (10 + m) + u)) := ⟨_, rfl⟩
  rw [← hV] at B6 R6 K6 S6 ⊢
  clear hV hd5 HO HB HC HR K5 S5
  have b0 := B6.cell 0 rfl
  have b1 := B6.cell 1 rfl
  have b2 := B6.cell 2 rfl
  have b3 := B6.cell 3 rfl
  have b4 := B6.cell 4 rfl
  have b5 := B6.cell 5 rfl
  have b6 := B6.cell 6 rfl
  have r0 := R6.cell 0 rfl
  have r1 := R6.cell 1 rfl
  have r2 := R6.cell 2 rfl
  have r3 := R6.cell 3 rfl
  have r4 := R6.cell 4 rfl
  have r5 := R6.cell 5 rfl
  have r6 := R6.cell 6 rfl
  have fr := R6.fr
  have hgV := S6.lt
  go_wp2_with fail
  refine bodyPost_ret (v := .agg (encWork ⟨s, X, Y, l, 10 + m, f, f + (10 + m) + u⟩).toArray) (by simp [results, Try.results98, go_sem, encWork, *]) rfl ⟨⟨s, X, Y, l, 10 + m, f, f + (10 + m) + u⟩, rfl, ⟨rfl, by first | omega | (simp only; omega), by first | omega | (simp only; omega), by first | omega | (simp only; omega), by first | omega | (simp only; omega), by first | omega | (simp only; omega), by first | omega | (simp only; omega), by first | omega | (simp only; omega), by first | omega | (simp only; omega), by first | omega | (simp only; omega), by first | omega | (simp only; omega), by first | omega | (simp only; omega), by first | omega | (simp only; omega)⟩, Drew.mk' (by (repeat' (first | (with_reducible exact Kept.refl _ _) | (with_reducible refine Kept.alloc' ?_ _) | (with_reducible refine Kept.setNew ?_ ?_ _) | (with_reducible refine Kept.drew ?_) | (with_reducible refine Kept.drewN ?_ _) | (with_reducible apply Kept.viaD; with_reducible assumption) | (with_reducible apply Kept.viaB; with_reducible assumption) | (with_reducible apply Kept.viaO; with_reducible assumption) | omega | (simp; done) | (simp; omega)))) (k' := k + 10 + 2) (by (repeat' (first | (with_reducible assumption) | (with_reducible apply Drew.src; with_reducible assumption) | (with_reducible apply Src.viaB; with_reducible assumption) | (with_reducible refine Src.alloc ?_ _) | (with_reducible refine Src.setFar ?_ ?_ _) | (with_reducible refine Src.drew ?_) | (with_reducible refine Src.drewN ?_ _) | omega | (simp; done) | (simp; omega)))) (by omega)⟩
def nmS : List ByteArray := [⟨#[97]⟩, ⟨#[98]⟩, ⟨#[99]⟩, ⟨#[100]⟩, ⟨#[101]⟩]
def drawnWs (ws : List WorkD) : Prop := ∀ i, (h : i < ws.length) → drawnW (nmS.getD i ⟨#[]⟩) ws[i]
theorem drawnWs.snoc {ws : List WorkD} {d : WorkD} (h : drawnWs ws) (hd : drawnW (nmS.getD ws.length ⟨#[]⟩) d) : drawnWs (ws ++ [d]) := fun i hi => by
  by_cases e : i < ws.length
  · rw [List.getElem_append_left e]; exact h i e
  · obtain rfl : i = ws.length := by simp at hi; omega
    simpa using hd
def DrS (w : World) (g k nb N : Nat) (u i : Value) (wr : World) : Prop :=
  ∃ (j : Nat) (ws : List WorkD), i = .int .i64 j ∧ j ≤ N ∧ ws.length = j ∧ drawnWs ws ∧ AccD w g 44 7 encWork wr u ws ∧ Src wr g (k + 2 + 12 * j) ∧ Bk wr nb 9 (nmS.map Value.string) ∧ u.ownBlock ≠ some nb
def WksR (g k : Nat) (w : World) (e : Ending) (w' : World) : Prop := ∃ u ws, e = .returned u ∧ Drew g k w w' ∧ SlO w' w.heap.size 7 encWork u ws ∧ ws.length ≤ 5 ∧ drawnWs ws
set_option maxHeartbeats 2000000 in
theorem c_l25Draw (g k : Nat) (w : World) (h : Src w g k) (hk : k ≤ 100000) :
    Calls Try.prog 58 #[.pointer (some ⟨g, 0, none⟩)] w (WksR g (k + 62) w) := by
  have hg := h.lt
  obtain ⟨i0, hi, iz0, iz1, iz2⟩ := info_parts info_Work
  have n0 : w.heap.size ≠ g := by omega
  go_enter Try.func58, Try.ntmps58
  go_wp2_with fail
  refine (c_pick g k _ _ (by (repeat' (first | (with_reducible assumption) | (with_reducible apply Drew.src; with_reducible assumption) | (with_reducible apply Src.viaB; with_reducible assumption) | (with_reducible refine Src.alloc ?_ _) | (with_reducible refine Src.setFar ?_ ?_ _) | (with_reducible refine Src.drew ?_) | (with_reducible refine Src.drewN ?_ _) | omega | (simp; done) | (simp; omega)))) (by omega) (by omega)).mono ?_
  rintro e w1 ⟨n, rfl, hx, hd1⟩
  obtain ⟨N, rfl⟩ : ∃ N : Nat, n = N := ⟨n.toNat, by omega⟩
  have hN : N ≤ 5 := by have := hx.2.1 (by omega); omega
  have hz1 := hd1.size
  simp at hz1
  have B1 : Bk w1 w.heap.size 9 (nmS.map Value.string) := Bk.drewBy hd1 (by omega) (Bk.alloc (Bk.new w _ _) _)
  have A1 : AccD w g 44 7 encWork w1 (.slice (some ⟨w.heap.size + 1, 0, none⟩) 0 0) ([] : List WorkD) := by
    have := (AccD.lit (W := w) (w := w.alloc (.cells (nmS.map Value.string).toArray 9)) (by (repeat' (first | (with_reducible exact Kept.refl _ _) | (with_reducible refine Kept.alloc' ?_ _) | (with_reducible refine Kept.setNew ?_ ?_ _) | (with_reducible refine Kept.drew ?_) | (with_reducible refine Kept.drewN ?_ _) | (with_reducible apply Kept.viaD; with_reducible assumption) | (with_reducible apply Kept.viaB; with_reducible assumption) | (with_reducible apply Kept.viaO; with_reducible assumption) | omega | (simp; done) | (simp; omega)))) hg 44 7 encWork).by hd1
    rw [World.size_alloc] at this
    exact this
  clear hx
  go_wp2_with fail
  go_loopw [4, 6] (fun u i wr => DrS w g k w.heap.size N u i wr) (fun _ i _ => N - (intOf i).toNat)
  case atStart => exact ⟨0, [], rfl, Nat.zero_le _, rfl, fun i hi => by simp at hi, A1, hd1.src, B1, by simp [Value.ownBlock]⟩
  case round =>
    clear A1 B1 hd1
    obtain ⟨j, ws, rfl, hjN, hwl, hws, hA, hS, hB, hne⟩ := hrel
    by_cases hlt : j < N
    · obtain ⟨nm, hnm⟩ : ∃ z, z = nmS.getD j ⟨#[]⟩ := ⟨_, rfl⟩
      have hj5 : j < 5 := by omega
      have hltI : (j : Int) < N := by omega
      have q0 : wr.cell? ⟨w.heap.size, j, none⟩ = some (.string nm) := hB.cell j (by
        rw [hnm, List.getElem?_map, List.getD_eq_getElem?_getD]
        have : j < nmS.length := hj5
        simp [this])
      have HW := hid hws
      have HL := hid hwl
      have HM := hid hnm
      clear hws hwl hnm
      go_wp2_with fail
      refine (c_l25DrawWork g (k + 2 + 12 * j) nm _ hS (by omega)).mono ?_
      rintro e w2 ⟨d, rfl, hd, hd2⟩
      have HA2 := hid (hA.by hd2)
      have HNE := hid hne
      clear hA hne q0
      have hB2 := Bk.drewBy hd2 (by omega) hB
      obtain ⟨f0, f1, f2, f3, f4, f5, f6⟩ := d
      simp only [encWork]
      have HD := hid hd
      clear hd
      have hwl := HL.out
      go_wp2_with (at_builtin; go_loud (refine wpList_pushD (α := WorkD) (v := u4) rfl (.tmp 16) (.tmp 23) 27 rfl i0 _ 64 Try.underlying27 hi iz0 iz1 iz2 rfl (by decide) (fun _ => rfl) ⟨f0, f1, f2, f3, f4, f5, f6⟩ rfl HA2.out 44 1 rfl (by intro u hu; simp [encWork] at hu; rcases hu with rfl | rfl | rfl | rfl | rfl | rfl | rfl <;> rfl) (by unfold maxLen; omega) (by omega) ?_); intro v3 w3 hA3 hK3 hat3)
      go_roundw
      case rel =>
        refine ⟨j + 1, _, by go_num, by omega, by simp; omega, HW.out.snoc ?_, hA3, ?_, ?_, ?_⟩
        · rw [HL.out, ← HM.out]; exact HD.out
        · exact (hd2.src.kept hK3 fun b hb => by have := HA2.out.far b hb; omega).mono (by omega)
        · exact hB2.kept hK3 HNE.out
        · rcases hat3 with e | e
          · rw [e]; exact HNE.out
          · rw [e]; intro e2; injection e2 with e2; have := HA2.out.kept.size; omega
      case measure => simp [intOf]; omega
    · go_wp2_with fail
      go_ret
      exact ⟨_, ws, rfl, Drew.mk' hA.kept hS (by omega), hA.slo (fun _ => rfl), by omega, hws⟩
theorem nm_ok : ∀ i, i < 5 → nameB (nmS.getD i ⟨#[]⟩) = true ∧ (nmS.getD i ⟨#[]⟩).size ≤ maxLen
  | 0, _ => ⟨by simp only [nmS, List.getD_cons_zero, nameB, ByteArray.toList_eq]; decide, by unfold maxLen; decide⟩
  | 1, _ => ⟨by simp only [nmS, List.getD_cons_zero, List.getD_cons_succ, nameB, ByteArray.toList_eq]; decide, by unfold maxLen; decide⟩
  | 2, _ => ⟨by simp only [nmS, List.getD_cons_zero, List.getD_cons_succ, nameB, ByteArray.toList_eq]; decide, by unfold maxLen; decide⟩
  | 3, _ => ⟨by simp only [nmS, List.getD_cons_zero, List.getD_cons_succ, nameB, ByteArray.toList_eq]; decide, by unfold maxLen; decide⟩
  | 4, _ => ⟨by simp only [nmS, List.getD_cons_zero, List.getD_cons_succ, nameB, ByteArray.toList_eq]; decide, by unfold maxLen; decide⟩
  | n + 5, h => by omega
theorem nm_less : ∀ i, i < 4 → Op.bytesLess (nmS.getD i ⟨#[]⟩).toList (nmS.getD (i + 1) ⟨#[]⟩).toList = true
  | 0, _ => by simp only [nmS, List.getD_cons_zero, List.getD_cons_succ, ByteArray.toList_eq]; decide
  | 1, _ => by simp only [nmS, List.getD_cons_zero, List.getD_cons_succ, ByteArray.toList_eq]; decide
  | 2, _ => by simp only [nmS, List.getD_cons_zero, List.getD_cons_succ, ByteArray.toList_eq]; decide
  | 3, _ => by simp only [nmS, List.getD_cons_zero, List.getD_cons_succ, ByteArray.toList_eq]; decide
  | n + 4, h => by omega
/-- the works that are drawn are valid -/
theorem drawn_works {ws : List WorkD} (h : drawnWs ws) (hl : ws.length ≤ 5) : worksB ws = true ∧ ∀ x ∈ ws, okWork x := by
  have one : ∀ i, (hi : i < ws.length) → workD ws[i] = true ∧ okWork ws[i] := fun i hi => by
    obtain ⟨e, h1, h2, h3, h4, h5, h6, h7, h8, h9, h10, h11, h12⟩ := h i hi
    have hn := nm_ok i (by omega)
    rw [← e] at hn
    refine ⟨?_, hn.2, ⟨by omega, by omega⟩, ⟨by omega, by omega⟩, ⟨by omega, by omega⟩, ⟨by omega, by omega⟩, ⟨by omega, by omega⟩, ⟨by omega, by omega⟩⟩
    simp only [workD, workB, hn.1, pointB, Bool.true_and, Bool.and_eq_true]
    exact ⟨⟨⟨⟨⟨inB_of (by omega) (by omega), inB_of (by omega) (by omega)⟩, inB_of (by omega) (by omega)⟩, inB_of (by omega) (by omega)⟩, inB_of (by omega) (by omega)⟩, inB_of (by omega) (by omega)⟩
  refine ⟨?_, fun x hx => ?_⟩
  · simp only [worksB, risesB, Bool.and_eq_true, decide_eq_true_eq]
    refine ⟨allB_true fun i hi => ?_, by omega⟩
    rcases Nat.eq_zero_or_pos i with rfl | hp
    · rw [stepB_zero _ _ _ hi]; exact (one 0 hi).1
    · rw [stepB_pos _ _ _ _ hi hp, (one i hi).1, Bool.true_and]
      have e1 := (h (i - 1) (by omega)).1
      have e2 := (h i hi).1
      have := nm_less (i - 1) (by omega)
      rw [show i - 1 + 1 = i by omega, ← e1, ← e2] at this
      exact this
  · obtain ⟨i, hi, rfl⟩ := List.getElem_of_mem hx
    exact (one i hi).2
theorem c_R8Ship (v : Value) (bs : List Int) (w : World) (h : SlA w 0 1 encU v bs) (hl : bs.length ≤ 1048576) (hb : ∀ x ∈ bs, 0 ≤ x ∧ x ≤ 255) :
    Calls Try.prog 16 #[v] w fun e w' => ∃ (s : ByteArray) (a b c : Int), e = .returned (.agg #[.string s, .int .i64 a, .int .i64 b, .int .i64 c]) ∧ shipB s a b c = true ∧ s.size ≤ maxLen ∧ Below w.heap.size w w' := by
  go_enter Try.func16, Try.ntmps16
  go_wp2_with fail
  refine (c_l00From v bs _ (by first | (with_reducible assumption) | (with_reducible apply SlO.at; (with_reducible assumption); (repeat' (first | (with_reducible exact Below.refl _ _) | (with_reducible refine Below.alloc ?_ ?_ _) | (with_reducible refine Below.drew ?_) | (with_reducible refine below_drewN ?_ _) | (with_reducible refine Below.setCell ?_ ?_ _) | (with_reducible refine below_via ‹_› ?_ ?_) | (with_reducible refine below_grow ?_ ?_ _ _) | omega | (simp; done) | (simp; omega))); done) | (with_reducible apply SlA.at; (with_reducible assumption); (repeat' (first | (with_reducible exact Below.refl _ _) | (with_reducible refine Below.alloc ?_ ?_ _) | (with_reducible refine Below.drew ?_) | (with_reducible refine below_drewN ?_ _) | (with_reducible refine Below.setCell ?_ ?_ _) | (with_reducible refine below_via ‹_› ?_ ?_) | (with_reducible refine below_grow ?_ ?_ _ _) | omega | (simp; done) | (simp; omega))); done)) hl hb).mono ?_
  rintro e w1 ⟨g, rfl, hb1, hg, hs⟩
  have hz1 := hb1.size
  simp at hz1 hg
  have R1 : Bk w1 w.heap.size 25 [.string ⟨#[]⟩, .int .i64 0, .int .i64 0, .int .i64 0] := (Bk.new w _ _).below hb1
  go_wp2_with fail
  refine (c_l25DrawShip g 0 _ hs (by omega)).mono ?_
  rintro e w2 ⟨s, a, b, c, rfl, hv, hsz, hd2⟩
  have R2 := Bk.drewBy hd2 (by omega) R1
  have r0 := R2.cell 0 rfl
  have r1 := R2.cell 1 rfl
  have r2 := R2.cell 2 rfl
  have r3 := R2.cell 3 rfl
  have fr := R2.fr
  have HV := hid hv
  clear hv
  have hb2 : Below w.heap.size w w2 := (((Below.refl _ _).alloc (Nat.le_refl _) _).trans (hb1.mono (by simp))).trans (hd2.kept.below (by omega) (fun k hk => by omega))
  go_wp2_with fail
  refine bodyPost_ret (v := .agg #[.string s, .int .i64 a, .int .i64 b, .int .i64 c]) (by simp [results, Try.results16, go_sem, *]) rfl ⟨s, a, b, c, rfl, HV.out, hsz, by (repeat' (first | (with_reducible exact Below.refl _ _) | (with_reducible refine Below.alloc ?_ ?_ _) | (with_reducible refine Below.drew ?_) | (with_reducible refine below_drewN ?_ _) | (with_reducible refine Below.setCell ?_ ?_ _) | (with_reducible refine below_via ‹_› ?_ ?_) | (with_reducible refine below_grow ?_ ?_ _ _) | omega | (simp; done) | (simp; omega)))⟩
def WksB (w : World) (e : Ending) (w' : World) : Prop := ∃ u ws, e = .returned u ∧ Below w.heap.size w w' ∧ SlO w' w.heap.size 7 encWork u ws ∧ ws.length ≤ 5 ∧ drawnWs ws
theorem c_R8Works (v : Value) (bs : List Int) (w : World) (h : SlA w 0 1 encU v bs) (hl : bs.length ≤ 1048576) (hb : ∀ x ∈ bs, 0 ≤ x ∧ x ≤ 255) :
    Calls Try.prog 17 #[v] w (WksB w) := by
  go_enter Try.func17, Try.ntmps17
  go_wp2_with fail
  refine (c_l00From v bs _ (by first | (with_reducible assumption) | (with_reducible apply SlO.at; (with_reducible assumption); (repeat' (first | (with_reducible exact Below.refl _ _) | (with_reducible refine Below.alloc ?_ ?_ _) | (with_reducible refine Below.drew ?_) | (with_reducible refine below_drewN ?_ _) | (with_reducible refine Below.setCell ?_ ?_ _) | (with_reducible refine below_via ‹_› ?_ ?_) | (with_reducible refine below_grow ?_ ?_ _ _) | omega | (simp; done) | (simp; omega))); done) | (with_reducible apply SlA.at; (with_reducible assumption); (repeat' (first | (with_reducible exact Below.refl _ _) | (with_reducible refine Below.alloc ?_ ?_ _) | (with_reducible refine Below.drew ?_) | (with_reducible refine below_drewN ?_ _) | (with_reducible refine Below.setCell ?_ ?_ _) | (with_reducible refine below_via ‹_› ?_ ?_) | (with_reducible refine below_grow ?_ ?_ _ _) | omega | (simp; done) | (simp; omega))); done)) hl hb).mono ?_
  rintro e w1 ⟨g, rfl, hb1, hg, hs⟩
  have hz1 := hb1.size
  go_wp2_with fail
  refine (c_l25Draw g 0 _ hs (by omega)).mono ?_
  rintro e w2 ⟨u, ws, rfl, hd2, hS, hwl, hws⟩
  have HW := hid hws
  clear hws
  go_wp2_with fail
  go_ret
  exact ⟨_, ws, rfl, hb1.trans (hd2.kept.below (by omega) (fun k hk => by omega)), hS.mono (by omega), hwl, HW.out⟩
end Go.Proofs.Ytmolcfagmiecjaa
