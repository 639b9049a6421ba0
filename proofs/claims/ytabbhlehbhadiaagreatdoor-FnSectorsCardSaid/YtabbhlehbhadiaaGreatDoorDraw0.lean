/- What the reference's draws stand on: the next byte, a number below another, one of some. -/
import Derived.Test.YtabbhlehbhadiaaGreatDoorSrc
import Derived.Test.YtabbhlehbhadiaaGreatDoorBase
namespace Go.Proofs.YtabbhlehbhadiaaGreatDoor
open Go.RowKit Go.Sort
set_option maxRecDepth 100000

theorem SrcC.step {w : World} {g k : Nat} {v : Value} {bs : List Int} {p : Nat} {sd S x : Int} (h : SrcC w g v bs p sd) (hp : p ≤ k) (hx : x = (p : Int) + 1) (n m : Nat) :
    Drew g (k + 1) w ((((w.drewN n).setCell ⟨g, 1, none⟩ (.int .i64 x)).setCell ⟨g, 2, none⟩ (.int .u64 S)).drewN m) := by
  subst hx
  have hk : Kept (fun b => b = g) w (((w.drewN n).setCell ⟨g, 1, none⟩ (.int .i64 ((p : Int) + 1))).setCell ⟨g, 2, none⟩ (.int .u64 S)) := ((Kept.of (M := fun b => b = g) (a := w) (b := w.drewN n) (below_drewN (Below.refl _ _) n)).set ⟨g, 1, none⟩ _ rfl).set ⟨g, 2, none⟩ _ rfl
  refine ⟨⟨hk.os, hk.tape, hk.output, hk.size, hk.block⟩, v, bs, p + 1, S, by omega, ?_⟩
  have c0 : (w.drewN n).cell? ⟨g, 0, none⟩ = some v := h.c0
  have c1 : (w.drewN n).cell? ⟨g, 1, none⟩ = some (.int .i64 p) := h.c1
  have c2 : (w.drewN n).cell? ⟨g, 2, none⟩ = some (.int .u64 sd) := h.c2
  have hs : SrcC (((w.drewN n).setCell ⟨g, 1, none⟩ (.int .i64 ((p : Int) + 1))).setCell ⟨g, 2, none⟩ (.int .u64 S)) g v bs (p + 1) S :=
    ⟨Nat.lt_of_lt_of_le h.lt hk.size, cell_off (cell_off c0 (by omega)) (by omega), by rw [show ((p + 1 : Nat) : Int) = (p : Int) + 1 by omega]; exact cell_off (cell_on c1) (by omega), cell_on (cell_off c2 (by omega)),
      fun j => by rw [World.frozen?_setCell, World.frozen?_setCell]; exact h.fr j, h.sl.kept hk fun hh b hb e => by have := h.far hh b hb; omega, h.by8, h.len, h.far⟩
  exact ⟨hs.lt, hs.c0, hs.c1, hs.c2, hs.fr, hs.sl.below (below_drewN (Below.refl _ _) m) (Nat.le_refl _), hs.by8, hs.len, hs.far⟩
theorem and255 (x : Int) : 0 ≤ bits .and .u64 x 255 ∧ bits .and .u64 x 255 ≤ 255 := by
  have h : (BitVec.ofInt 64 x &&& BitVec.ofInt 64 255).toNat ≤ 255 := by
    rw [BitVec.toNat_and]; exact Nat.le_trans Nat.and_le_right (by decide)
  have e : bits .and .u64 x 255 = (((BitVec.ofInt 64 x &&& BitVec.ofInt 64 255).toNat : Nat) : Int) := IntWalk.u64_in (((BitVec.ofInt 64 x &&& BitVec.ofInt 64 255).toNat : Nat) : Int) (by omega)
  rw [e]; omega
set_option maxHeartbeats 1000000 in
theorem c_next (g k : Nat) (w : World) (h : Src w g k) (hk : k ≤ 100000000) :
    Calls Tryz.prog 77 #[.pointer (some ⟨g, 0, none⟩)] w (Num g (k + 1) (fun x => 0 ≤ x ∧ x ≤ 255) w) := by
  obtain ⟨v, bs, p, sd, hp, h⟩ := h
  obtain ⟨ad, cap, b, off, rfl, hm, had, hx⟩ := h.sl.uni
  have hlen := h.len
  have c0 := h.c0
  have c1 := h.c1
  have c2 := h.c2
  have fr := h.fr
  have HS := hid h
  by_cases hlt : p < bs.length
  · obtain ⟨rfl, hb, -, hcap, hcm⟩ := had (by omega)
    have x0 := hx p hlt 0 (by omega)
    simp only [encU, List.getD_cons_zero, Nat.mul_one, Nat.add_zero] at x0
    have hb8 := h.by8 bs[p] (List.getElem_mem hlt)
    clear h hx had
    go_enter Tryz.func77, Tryz.ntmps77
    go_wp2_with fail
    go_quiet (fail)
    go_wp2_with fail
    go_quiet (fail)
    go_wp2_with fail
    generalize IntKind.u64.wrap (IntKind.u64.wrap (IntKind.u64.wrap (sd * 6364136223846793005) + bs[p]) + 1442695040888963407) = S
    go_quiet (fail)
    go_wp2_with fail
    go_ret
    exact Num.mk' hb8 (HS.out.step hp rfl _ _)
  · clear h hx had
    go_enter Tryz.func77, Tryz.ntmps77
    go_wp2_with fail
    go_quiet (fail)
    go_wp2_with fail
    generalize IntKind.u64.wrap (IntKind.u64.wrap (IntKind.u64.wrap (sd * 6364136223846793005)) + 1442695040888963407) = S
    go_quiet (fail)
    go_wp2_with fail
    go_ret
    have hA := and255 (S / 1099511627776)
    refine Num.mk' ?_ (HS.out.step hp rfl _ _)
    unfold wrap64; omega

theorem c_pick (g k : Nat) (n : Int) (w : World) (h : Src w g k) (hk : k ≤ 10000000) (hn : n ≤ 9223372036854775807) :
    Calls Tryz.prog 46 #[.pointer (some ⟨g, 0, none⟩), .int .i64 n] w (Num g (k + 2) (fun x => 0 ≤ x ∧ (1 ≤ n → x < n) ∧ (n ≤ 1 → x = 0)) w) := by
  by_cases h1 : n ≤ 1
  · go_enter Tryz.func46, Tryz.ntmps46
    go_wp2_with fail
    go_ret
    exact Num.mk' ⟨by omega, fun _ => by omega, fun _ => rfl⟩ (Drew.refl (h.mono (by omega)))
  · go_enter Tryz.func46, Tryz.ntmps46
    go_wp2_with fail
    refine (c_next g k _ h (by omega)).mono ?_
    rintro e w1 ⟨x, rfl, hx, hd⟩
    by_cases h2 : 200 < n
    · go_wp2_with fail
      refine (c_next g (k + 1) _ hd.src (by omega)).mono ?_
      rintro e w2 ⟨y, rfl, hy, hd2⟩
      go_wp2_with fail
      go_ret
      exact Num.mk' ⟨Int.emod_nonneg _ (by omega), fun _ => Int.emod_lt_of_pos _ (by omega), fun _ => by omega⟩ (hd.trans hd2)
    · go_wp2_with fail
      go_ret
      exact Num.mk' ⟨Int.emod_nonneg _ (by omega), fun _ => Int.emod_lt_of_pos _ (by omega), fun _ => by omega⟩ (hd.mono (by omega))
/-- once in n times -/
theorem c_one (g k : Nat) (n : Int) (w : World) (h : Src w g k) (hk : k ≤ 10000000) (hn : n ≤ 9223372036854775807) :
    Calls Tryz.prog 45 #[.pointer (some ⟨g, 0, none⟩), .int .i64 n] w fun e w' => ∃ b : Bool, e = .returned (.bool b) ∧ Drew g (k + 2) w w' := by
  go_enter Tryz.func45, Tryz.ntmps45
  go_wp2_with fail
  refine (c_pick g k n _ h hk hn).mono ?_
  rintro e w1 ⟨x, rfl, hx, hd⟩
  go_wp2_with fail
  go_ret
  exact ⟨_, rfl, hd⟩
/-- a row that is new -/
theorem sl_new {α : Type} {enc : α → List Value} {n : Nat} (hn : ∀ x, (enc x).length = n) (w : World) (xs : List α) (T : TypeId) {cs : Array Value} (hcs : cs = (xs.flatMap enc).toArray) {m : Nat} (hm : m = xs.length) (hl : xs.length ≤ 1048576) :
    SlA (w.alloc (.cells cs T)) 0 n enc (.slice (some ⟨w.heap.size, 0, none⟩) m m) xs := by
  subst hcs; subst hm
  refine PartC.done (g := w.heap.size) hn ⟨by simp, by rw [flat_len enc hn]; exact Nat.le_refl _, fun j => by simp [go_sem], fun j hj => ?_, fun j hj => ?_⟩ (Nat.zero_le _) (Nat.le_refl _) (by unfold maxLen; omega)
  · have := cells_new w _ T j _ (List.getElem?_eq_getElem hj)
    rw [Addr.add_lit, Nat.zero_add] at this
    exact ⟨_, this⟩
  · have hj' : j < (xs.flatMap enc).length := by rw [flat_len enc hn]; exact hj
    have := cells_new w _ T j _ (List.getElem?_eq_getElem hj')
    rw [Addr.add_lit, Nat.zero_add] at this
    rw [this, List.getD_eq_getElem?_getD, List.getElem?_eq_getElem hj']; rfl
/-- a list that lies elsewhere than the source -/
def Lit {α : Type} (w : World) (g : Nat) (enc : α → List Value) (v : Value) (xs : List α) : Prop := SlA w 0 1 enc v xs ∧ 0 < xs.length ∧ xs.length ≤ 1048576 ∧ ∀ b, v.ownBlock = some b → b ≠ g
theorem lit_new {α : Type} {enc : α → List Value} (hn : ∀ x, (enc x).length = 1) {w : World} {g : Nat} (xs : List α) {T : TypeId} {cs : Array Value} (hg : g < w.heap.size) (hcs : cs = (xs.flatMap enc).toArray) {m : Nat} (hm : m = xs.length) (hp : 0 < xs.length) (hl : xs.length ≤ 1048576) :
    Lit (w.alloc (.cells cs T)) g enc (.slice (some ⟨w.heap.size, 0, none⟩) m m) xs :=
  ⟨sl_new hn w xs T hcs hm hl, hp, hl, fun b hb => by simp [Value.ownBlock] at hb; omega⟩
theorem c_among (g k : Nat) (v : Value) (xs : List Int) (w : World) (h : Src w g k) (hk : k ≤ 10000000) (hl : Lit w g encI v xs) :
    Calls Tryz.prog 67 #[.pointer (some ⟨g, 0, none⟩), v] w (Num g (k + 2) (fun x => x ∈ xs) w) := by
  obtain ⟨hs, hp, hl, hf⟩ := hl
  obtain ⟨ad, cap, b, off, rfl, hm, had, hx⟩ := hs.uni
  obtain ⟨rfl, hb, -, hcap, hcm⟩ := had hp
  have hne : b ≠ g := hf b rfl
  clear had hf hs
  go_enter Tryz.func67, Tryz.ntmps67
  go_wp2_with fail
  refine (c_pick g k _ _ h hk (by omega)).mono ?_
  rintro e w1 ⟨x, rfl, hx0, hd⟩
  obtain ⟨i, rfl⟩ : ∃ i : Nat, x = i := ⟨x.toNat, by omega⟩
  have hi : i < xs.length := by omega
  have x0 := hd.cell (o := off + i) hb hne (by simpa [encI] using hx i hi 0 (by omega))
  clear hx
  go_wp2_with fail
  go_ret
  exact Num.mk' (List.getElem_mem hi) hd
def Txt (g k : Nat) (P : ByteArray → Prop) (w : World) (e : Ending) (w' : World) : Prop := ∃ x : ByteArray, e = .returned (.string x) ∧ P x ∧ Drew g k w w'
theorem Txt.mk' {g k : Nat} {P : ByteArray → Prop} {w w' : World} {x : ByteArray} (hx : P x) (h : Drew g k w w') : Txt g k P w (.returned (.string x)) w' := ⟨x, rfl, hx, h⟩
theorem c_text (g k : Nat) (v : Value) (xs : List ByteArray) (w : World) (h : Src w g k) (hk : k ≤ 10000000) (hl : Lit w g encT v xs) :
    Calls Tryz.prog 79 #[.pointer (some ⟨g, 0, none⟩), v] w (Txt g (k + 2) (fun x => x ∈ xs) w) := by
  obtain ⟨hs, hp, hl, hf⟩ := hl
  obtain ⟨ad, cap, b, off, rfl, hm, had, hx⟩ := hs.uni
  obtain ⟨rfl, hb, -, hcap, hcm⟩ := had hp
  have hne : b ≠ g := hf b rfl
  clear had hf hs
  go_enter Tryz.func79, Tryz.ntmps79
  go_wp2_with fail
  refine (c_pick g k _ _ h hk (by omega)).mono ?_
  rintro e w1 ⟨x, rfl, hx0, hd⟩
  obtain ⟨i, rfl⟩ : ∃ i : Nat, x = i := ⟨x.toNat, by omega⟩
  have hi : i < xs.length := by omega
  have x0 := hd.cell (o := off + i) hb hne (by simpa [encT] using hx i hi 0 (by omega))
  clear hx
  go_wp2_with fail
  go_ret
  exact Txt.mk' (List.getElem_mem hi) hd
theorem c_l00From (v : Value) (bs : List Int) (w : World) (h : SlA w 0 1 encU v bs) (hl : bs.length ≤ 1048576) (hb : ∀ x ∈ bs, 0 ≤ x ∧ x ≤ 255) :
    Calls Tryz.prog 29 #[v] w fun e w' => ∃ g, e = .returned (.pointer (some ⟨g, 0, none⟩)) ∧ Below w.heap.size w w' ∧ w.heap.size ≤ g ∧ Src w' g 0 := by
  obtain ⟨ad, cap, b, off, rfl, hm, had, hx⟩ := h.uni
  have H := hid h
  go_enter Tryz.func29, Tryz.ntmps29
  go_wp2_with fail
  go_ret
  refine ⟨_, rfl, by (repeat' (first | (with_reducible exact Below.refl _ _) | (with_reducible refine Below.alloc ?_ ?_ _) | (with_reducible refine Below.drew ?_) | (with_reducible refine below_drewN ?_ _) | (with_reducible refine Below.setCell ?_ ?_ _) | (with_reducible refine below_via ‹_› ?_ ?_) | (with_reducible refine below_grow ?_ ?_ _ _) | omega | (simp; done) | (simp; omega))), Nat.le_refl _, _, bs, 0, 0, Nat.le_refl _, by simp, by simp [go_sem], by simp [go_sem], by simp [go_sem], fun j => by simp [go_sem], H.out.at (by (repeat' (first | (with_reducible exact Below.refl _ _) | (with_reducible refine Below.alloc ?_ ?_ _) | (with_reducible refine Below.drew ?_) | (with_reducible refine below_drewN ?_ _) | (with_reducible refine Below.setCell ?_ ?_ _) | (with_reducible refine below_via ‹_› ?_ ?_) | (with_reducible refine below_grow ?_ ?_ _ _) | omega | (simp; done) | (simp; omega)))), hb, hl, fun hp b' hb' => ?_⟩
  obtain ⟨rfl, hb, -⟩ := had hp
  simp [Value.ownBlock] at hb'; omega
theorem lit_at {α : Type} {enc : α → List Value} (hn : ∀ x, (enc x).length = 1) {W w : World} {g bk : Nat} (xs : List α) {T : TypeId} {cs : Array Value} (hW : W = w.alloc (.cells cs T)) (hb : bk = w.heap.size) (hg : g < w.heap.size) (hcs : cs = (xs.flatMap enc).toArray) {m : Nat} (hm : m = xs.length) (hp : 0 < xs.length) (hl : xs.length ≤ 1048576) :
    Lit W g enc (.slice (some ⟨bk, 0, none⟩) m m) xs := by
  subst hW; subst hb; exact lit_new hn xs hg hcs hm hp hl
theorem Kept.alloc' {M : Nat → Prop} {a b : World} (h : Kept M a b) (o : Obj) : Kept M a (b.alloc o) := h.trans (Kept.of ((Below.refl _ _).alloc (Nat.le_refl _) _))
theorem Kept.setNew {M : Nat → Prop} {a b : World} {q o : Nat} (h : Kept M a b) (hq : a.heap.size ≤ q) (u : Value) : Kept M a (b.setCell ⟨q, o, none⟩ u) :=
  ⟨h.os, h.tape, h.output, by rw [size_put]; exact h.size, fun i hi hn => (Below.heap_setCell b ⟨q, o, none⟩ u i (by simp; omega)).trans (h.block i hi hn)⟩
theorem Kept.via {M : Nat → Prop} {a b c : World} (k : Kept M b c) (h : Kept M a b) : Kept M a c := h.trans k
theorem Kept.viaB {M : Nat → Prop} {a b c : World} (k : Below b.heap.size b c) (h : Kept M a b) : Kept M a c := h.trans (Kept.of k)
theorem Kept.drewN {M : Nat → Prop} {a b : World} (h : Kept M a b) (n : Nat) : Kept M a (b.drewN n) := h.trans (Kept.of (below_drewN (Below.refl _ _) n))
theorem Kept.drew {M : Nat → Prop} {a b : World} (h : Kept M a b) : Kept M a b.drew := h.drewN 1
theorem Src.alloc {w : World} {g k : Nat} (h : Src w g k) (o : Obj) : Src (w.alloc o) g k := h.below ((Below.refl _ _).alloc (Nat.le_refl _) _)
theorem Src.setFar {w : World} {g k q o : Nat} (h : Src w g k) (hq : g < q) (u : Value) : Src (w.setCell ⟨q, o, none⟩ u) g k := h.kept ((Kept.refl (fun b => b = q) w).set ⟨q, o, none⟩ u rfl) fun b hb => by omega
theorem Src.drewN {w : World} {g k : Nat} (h : Src w g k) (n : Nat) : Src (w.drewN n) g k := h.below (below_drewN (Below.refl _ _) n)
theorem Src.drew {w : World} {g k : Nat} (h : Src w g k) : Src w.drew g k := h.drewN 1
theorem Drew.mk' {g k k' : Nat} {w w' : World} (h : Kept (fun b => b = g) w w') (h2 : Src w' g k') (hk : k' ≤ k) : Drew g k w w' := ⟨h, h2.mono hk⟩
theorem Lit.drew {α : Type} {w : World} {g : Nat} {enc : α → List Value} {v : Value} {xs : List α} (h : Lit w g enc v xs) : Lit w.drew g enc v xs := ⟨h.1.below (below_drewN (Below.refl _ _) 1) (Nat.le_refl _), h.2⟩
theorem dcell {g k : Nat} {W w1 : World} (h : Drew g k W w1) : (∀ b o, b < W.heap.size → b ≠ g → w1.cell? ⟨b, o, none⟩ = W.cell? ⟨b, o, none⟩) ∧ (∀ b o, b < W.heap.size → b ≠ g → w1.frozen? ⟨b, o, none⟩ = W.frozen? ⟨b, o, none⟩) :=
  ⟨fun b o hb hn => World.cell?_of_block (a := ⟨b, o, none⟩) (h.kept.block b hb hn), fun b o hb hn => World.frozen?_of_block (a := ⟨b, o, none⟩) (h.kept.block b hb hn)⟩
theorem Src.viaB {w w' : World} {g k : Nat} (hb : Below w.heap.size w w') (h : Src w g k) : Src w' g k := h.below hb
end Go.Proofs.YtabbhlehbhadiaaGreatDoor
