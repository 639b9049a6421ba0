/- What the law on the tides draws: a tide and a time. -/
import Derived.Test.YtabbhlehbhadiaaGreatDoorDrawT
namespace Go.Proofs.YtabbhlehbhadiaaGreatDoor
open Go.RowKit Go.Sort
set_option linter.unusedVariables false
set_option maxRecDepth 100000

/-- only the source and one block more have turned -/
def Only2 (g r : Nat) (w w' : World) : Prop := Kept (fun b => b = g ∨ b = r) w w'
theorem only2_of {g r : Nat} {w w' : World} (h : Kept (fun b => b = g ∨ b = r) w w') : Only2 g r w w' := h
theorem Only2.out {g r : Nat} {w w' : World} (h : Only2 g r w w') : Kept (fun b => b = g ∨ b = r) w w' := h
theorem Only2.cell {g r : Nat} {w w' : World} (h : Only2 g r w w') {X i : Nat} {T : TypeId} {cs : List Value} (hb : Bk w X T cs) (hne : X ≠ g) (hne2 : X ≠ r) {u : Value} (hu : cs[i]? = some u) : w'.cell? ⟨X, i, none⟩ = some u := (hb.kept h (by omega)).cell i hu
theorem Kept.via2 {g r k : Nat} {a b c : World} (hd : Drew g k b c) (h : Kept (fun b => b = g ∨ b = r) a b) : Kept (fun b => b = g ∨ b = r) a c := h.trans (hd.kept.mono fun _ e => .inl e)
def TAtR (w : World) (e : Ending) (w' : World) : Prop := ∃ (a b : Int) (v : Value) (xs : List Int) (t : Int), e = .returned (.tuple #[.agg #[.int .i64 a, .int .i64 b, v], .int .i64 t]) ∧ Below w.heap.size w w' ∧ SlA w' 0 1 encI v xs ∧ xs.length ≤ 65
set_option maxHeartbeats 2000000 in
theorem c_DrawTideAt (v0 : Value) (bs : List Int) (w : World) (h : SlA w 0 1 encU v0 bs) (hl : bs.length ≤ 1048576) (hb : ∀ x ∈ bs, 0 ≤ x ∧ x ≤ 255) :
    Calls Tryz.prog 6 #[v0] w (TAtR w) := by
  go_enter Tryz.func6, Tryz.ntmps6
  go_wp2_with fail
  refine (c_l00From v0 bs _ (by first | (with_reducible assumption) | (with_reducible apply SlO.at; (with_reducible assumption); (repeat' (first | (with_reducible exact Below.refl _ _) | (with_reducible refine Below.alloc ?_ ?_ _) | (with_reducible refine Below.drew ?_) | (with_reducible refine below_drewN ?_ _) | (with_reducible refine Below.setCell ?_ ?_ _) | (with_reducible refine below_via ‹_› ?_ ?_) | (with_reducible refine below_grow ?_ ?_ _ _) | omega | (simp; done) | (simp; omega))); done) | (with_reducible apply SlA.at; (with_reducible assumption); (repeat' (first | (with_reducible exact Below.refl _ _) | (with_reducible refine Below.alloc ?_ ?_ _) | (with_reducible refine Below.drew ?_) | (with_reducible refine below_drewN ?_ _) | (with_reducible refine Below.setCell ?_ ?_ _) | (with_reducible refine below_via ‹_› ?_ ?_) | (with_reducible refine below_grow ?_ ?_ _ _) | omega | (simp; done) | (simp; omega))); done)) hl hb).mono ?_
  rintro e w1 ⟨g, rfl, hb1, hg, hs⟩
  have hz1 := hb1.size
  simp at hz1 hg
  have n0 : w.heap.size ≠ g := by omega
  have R1 : Bk w1 w.heap.size 26 [.int .i64 0, .int .i64 0, .slice none 0 0] := (Bk.new w _ _).below hb1
  have B1 : Below w.heap.size w w1 := by (repeat' (first | (with_reducible exact Below.refl _ _) | (with_reducible refine Below.alloc ?_ ?_ _) | (with_reducible refine Below.drew ?_) | (with_reducible refine below_drewN ?_ _) | (with_reducible refine Below.setCell ?_ ?_ _) | (with_reducible refine below_via ‹_› ?_ ?_) | (with_reducible refine below_grow ?_ ?_ _ _) | omega | (simp; done) | (simp; omega)))
  clear hb1
  go_wp2_with fail
  refine (c_l26Draw g 0 _ hs (by omega)).mono ?_
  rintro e w2 ⟨a, b, v, xs, rfl, hd2, hS2, hx1, hx2⟩
  have hz2 := hd2.size
  obtain ⟨adv, cpv, rfl⟩ := hS2.1.form
  have R2 : Bk w2 w.heap.size 26 [.int .i64 0, .int .i64 0, .slice none 0 0] := Bk.drewBy hd2 (by omega) R1
  have B2 : Below w.heap.size w w2 := B1.trans (hd2.kept.below (by omega) (fun k hk => by omega))
  have Q2 := hd2.src
  have hgl := hs.lt
  have hvg : ∀ b', (Value.slice adv xs.length cpv).ownBlock = some b' → b' ≠ g := fun b' hb' => by obtain ⟨-, q, -⟩ := hS2.2 b' hb'; omega
  clear R1 B1 hs hd2
  go_wp2_with fail
  have P3 : Bk (w2.alloc (.cells #[.int .i64 a, .int .i64 b, .slice adv xs.length cpv] 26)) w2.heap.size 26 [.int .i64 a, .int .i64 b, .slice adv xs.length cpv] := (by (repeat' (first | (with_reducible exact Bk.new _ _ _) | (with_reducible refine Bk.new1 ?_; first | rfl | (simp; done) | omega) | (with_reducible assumption) | (with_reducible refine Bk.alloc ?_ _) | (with_reducible refine Bk.drew ?_) | (with_reducible refine Bk.drewN ?_ _) | (with_reducible refine Bk.other ?_ ?_ _) | (with_reducible apply Bk.drewBy; with_reducible assumption) | (with_reducible apply Bk.viaB; with_reducible assumption) | omega | (simp; done))))
  have S3 : SlO (w2.alloc (.cells #[.int .i64 a, .int .i64 b, .slice adv xs.length cpv] 26)) w1.heap.size 1 encI (.slice adv xs.length cpv) xs := hS2.below (Below.alloc (Below.refl _ _) (Nat.le_refl _) _) (Nat.le_refl _)
  have R3 : Bk (w2.alloc (.cells #[.int .i64 a, .int .i64 b, .slice adv xs.length cpv] 26)) w.heap.size 26 [.int .i64 0, .int .i64 0, .slice none 0 0] := (by (repeat' (first | (with_reducible exact Bk.new _ _ _) | (with_reducible refine Bk.new1 ?_; first | rfl | (simp; done) | omega) | (with_reducible assumption) | (with_reducible refine Bk.alloc ?_ _) | (with_reducible refine Bk.drew ?_) | (with_reducible refine Bk.drewN ?_ _) | (with_reducible refine Bk.other ?_ ?_ _) | (with_reducible apply Bk.drewBy; with_reducible assumption) | (with_reducible apply Bk.viaB; with_reducible assumption) | omega | (simp; done))))
  have Q3 := Q2.alloc (.cells #[.int .i64 a, .int .i64 b, .slice adv xs.length cpv] 26)
  have B3 := B2.alloc B2.size (.cells #[.int .i64 a, .int .i64 b, .slice adv xs.length cpv] 26)
  have hz3 : w2.heap.size < (w2.alloc (.cells #[.int .i64 a, .int .i64 b, .slice adv xs.length cpv] 26)).heap.size := by rw [World.size_alloc]; omega
  obtain ⟨W, hW⟩ : ∃ z, z = w2.alloc (.cells #[.int .i64 a, .int .i64 b, .slice adv xs.length cpv] 26) := ⟨_, rfl⟩
  rw [← hW] at P3 S3 R3 Q3 B3 hz3 ⊢
  clear hW R2 B2 Q2 hS2
  have nP : w2.heap.size ≠ g := by omega
  have nR : w2.heap.size ≠ w.heap.size := by omega
  have hnR : (Value.slice adv xs.length cpv).ownBlock ≠ some w.heap.size := fun e => by obtain ⟨-, q, -⟩ := S3.2 _ e; omega
  have k0 : ∀ w', Only2 g w.heap.size W w' → w'.cell? ⟨w2.heap.size, 0, none⟩ = some (.int .i64 a) := fun w' h => h.cell P3 nP nR rfl
  have k1 : ∀ w', Only2 g w.heap.size W w' → w'.cell? ⟨w2.heap.size, 1, none⟩ = some (.int .i64 b) := fun w' h => h.cell P3 nP nR rfl
  have k2 : ∀ w', Only2 g w.heap.size W w' → w'.cell? ⟨w2.heap.size, 2, none⟩ = some (.slice adv xs.length cpv) := fun w' h => h.cell P3 nP nR rfl
  have cd : ∀ w', Only g W w' → Src w' g 50 → Calls Tryz.prog 31 #[.pointer (some ⟨g, 0, none⟩), .pointer (some ⟨w2.heap.size, 0, none⟩)] w' (AnyN g 54 w') := fun w' h hs =>
    c_l26DrawTime g 50 w2.heap.size a b _ xs w' hs (by omega) (P3.kept h.out (by omega)) nP ((S3.only h.out (by omega)).1.mono (Nat.zero_le _)) hvg
  have HP := hid P3
  have HR := hid R3
  have HS := hid S3
  have HQ := hid Q3
  have HB := hid B3
  clear P3 R3 S3 Q3 B3
  go_region_held3 (fun w' => Only2 g w.heap.size W w') ((refine only2_of ?_; (repeat' (first | (with_reducible exact Kept.refl _ _) | (with_reducible refine Kept.set ?_ _ _ (.inr rfl)) | (with_reducible refine Kept.drew ?_) | (with_reducible refine Kept.drewN ?_ _) | (with_reducible apply Kept.via2; with_reducible assumption))))) (first | (go_at_call 31; refine (cd _ (by refine only_of ?_; (repeat' (first | (with_reducible exact Kept.refl _ _) | (with_reducible refine Kept.alloc' ?_ _) | (with_reducible refine Kept.setNew ?_ ?_ _) | (with_reducible refine Kept.drew ?_) | (with_reducible refine Kept.drewN ?_ _) | (with_reducible apply Kept.viaD; with_reducible assumption) | (with_reducible apply Kept.viaB; with_reducible assumption) | (with_reducible apply Kept.viaO; with_reducible assumption) | omega | (simp; done) | (simp; omega)))) (by have := HQ.out; (repeat' (first | (with_reducible assumption) | (with_reducible apply Drew.src; with_reducible assumption) | (with_reducible apply Src.viaB; with_reducible assumption) | (with_reducible refine Src.alloc ?_ _) | (with_reducible refine Src.setFar ?_ ?_ _) | (with_reducible refine Src.drew ?_) | (with_reducible refine Src.drewN ?_ _) | omega | (simp; done) | (simp; omega))))).mono ?_; rintro e w5 ⟨t, rfl, hd5⟩; have HK5 : Kept (fun b => b = g) W w5 := (by (repeat' (first | (with_reducible exact Kept.refl _ _) | (with_reducible refine Kept.alloc' ?_ _) | (with_reducible refine Kept.setNew ?_ ?_ _) | (with_reducible refine Kept.drew ?_) | (with_reducible refine Kept.drewN ?_ _) | (with_reducible apply Kept.viaD; with_reducible assumption) | (with_reducible apply Kept.viaB; with_reducible assumption) | (with_reducible apply Kept.viaO; with_reducible assumption) | omega | (simp; done) | (simp; omega)))); have HR5 := HR.out.kept HK5 (by omega); have r0 := HR5.cell 0 rfl; have r1 := HR5.cell 1 rfl; have r2 := HR5.cell 2 rfl; have rf := HR5.fr; clear HR5) | fail)
  have S5 := HS.out.only HK5 (by omega)
  have B5 : Below w.heap.size w w5 := HB.out.trans (HK5.below (by omega) (fun k hk => by omega))
  have HS5 := hid S5
  have HB5 := hid B5
  clear S5 B5 k0 k1 k2 cd
  go_wp2_with fail
  refine bodyPost_ret (v := .tuple #[.agg #[.int .i64 a, .int .i64 b, .slice adv xs.length cpv], .int .i64 t]) (by simp [results, Tryz.results6, go_sem, *]) rfl ⟨_, _, _, xs, _, rfl, ((HB5.out.setCell (Nat.le_refl _) _).setCell (Nat.le_refl _) _).setCell (Nat.le_refl _) _, And.left (SlO.mono (lo := w1.heap.size) (by repeat' (first | exact HS5.out | refine SlO.far ?_ ?_ _ | assumption)) (Nat.zero_le _)), by omega⟩
end Go.Proofs.YtabbhlehbhadiaaGreatDoor
