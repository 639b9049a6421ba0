/- The program's best voyage: the order with all works that ends first. -/
import Derived.Test.YtmolcfagmiecjaaPlanR
import Derived.Test.YtmolcfagmiecjaaSrc
namespace Go.Proofs.Ytmolcfagmiecjaa
open Go.RowKit Go.Sort
set_option linter.unusedVariables false
set_option maxRecDepth 100000

theorem fine_end {a b x y t : Int} {ws : List WorkD} {os : List Int} (h1 : 1 ≤ a) (h2 : a ≤ 2000) (hw : worksB ws = true) (hp : pointB x y = true) (ht : 0 ≤ t) (ht2 : t ≤ 4320) (h : FineO a b x y t ws os) : 0 ≤ endV a b x y ws os t ∧ endV a b x y ws os t ≤ 3037010000 := by
  obtain ⟨ho, hl, cs, hc⟩ := h.out
  have hok : okS a x y ws os t = true := by rw [okS, hc]; rfl
  have hv : voyC a b x y ws os t = 0 := by rw [voyC_late hl, hok]; rfl
  have hvl : voyL a b x y ws os t = cs := by rw [voyL, if_neg (by omega), hc]
  have hb := lpt_bd hw ho hc ht ht2 cs.length (Nat.le_refl _)
  have hq := lp_point hw ho hp os.length (Nat.le_refl _)
  rw [List.take_length] at hb hq
  have := travelT_bd h1 h2 hq hp
  rw [endV, if_pos hv, hvl, lastV_home h1 hc]; omega
def Mem6 (H b : Nat) : Prop := H ≤ b ∧ b < H + 6
def AnsB (endO : List Int → Int) (H g : Nat) (w : World) : Option (List Int) → Prop
  | none => Bk w (H + 4) 29 [.slice none 0 0] ∧ Bk w (H + 5) 2 [.int .i64 (-1)]
  | some os => ∃ v, Bk w (H + 4) 29 [v] ∧ Bk w (H + 5) 2 [.int .i64 (endO os)] ∧ 0 ≤ endO os ∧ SlO w H 1 encI v os ∧ ∀ b, v.ownBlock = some b → ¬ Mem6 H b ∧ b ≠ g
structure BestS (endO : List Int → Int) (H g : Nat) (s : ByteArray) (a b c x y t : Int) (lv : Value) (ws : List WorkD) (w : World) (al : Option (List Int)) : Prop where
  s : Bk w H 25 [.string s, .int .i64 a, .int .i64 b, .int .i64 c]
  p : Bk w (H + 1) 33 [.int .i64 x, .int .i64 y]
  l : Bk w (H + 2) 27 [lv]
  t : Bk w (H + 3) 2 [.int .i64 t]
  a : AnsB endO H g w al
  sl : SlA w 0 7 encWork lv ws
  far : 0 < ws.length → ∀ b, lv.ownBlock = some b → b < H
  hg : H + 6 ≤ g
section
variable {endO : List Int → Int} {H g : Nat} {s : ByteArray} {a b c x y t : Int} {lv : Value} {ws : List WorkD} {w w' : World} {al : Option (List Int)}
theorem AnsB.kept (h : AnsB endO H g w al) (hg : H + 6 ≤ g) (hk : Kept (fun k => k = g) w w') : AnsB endO H g w' al := by
  cases al with
  | none => exact ⟨h.1.kept hk (by omega), h.2.kept hk (by omega)⟩
  | some os => obtain ⟨v, k1, k2, k3, k4, k5⟩ := h; exact ⟨v, k1.kept hk (by omega), k2.kept hk (by omega), k3, k4.kept hk (fun b hb e => (k5 b hb).2 e), k5⟩
theorem BestS.kept (h : BestS endO H g s a b c x y t lv ws w al) (hk : Kept (fun k => k = g) w w') : BestS endO H g s a b c x y t lv ws w' al := by
  have hg := h.hg
  exact ⟨h.s.kept hk (by omega), h.p.kept hk (by omega), h.l.kept hk (by omega), h.t.kept hk (by omega), h.a.kept hg hk, h.sl.kept hk (fun hp b hb e => by have := h.far hp b hb; omega), h.far, hg⟩
theorem BestS.below (h : BestS endO H g s a b c x y t lv ws w al) (hb : Below w.heap.size w w') : BestS endO H g s a b c x y t lv ws w' al := h.kept (Kept.of hb)
/-- the best turns -/
theorem BestS.put (h : BestS endO H g s a b c x y t lv ws w al) {v : Value} {os : List Int} (hv : SlO w H 1 encI v os) (hn : ∀ b, v.ownBlock = some b → ¬ Mem6 H b ∧ b ≠ g) (h0 : 0 ≤ endO os) :
    BestS endO H g s a b c x y t lv ws ((w.setCell ⟨H + 4, 0, none⟩ v).setCell ⟨H + 5, 0, none⟩ (.int .i64 (endO os))) (some os) := by
  have a4 : ∃ cs4, Bk w (H + 4) 29 [cs4] := by
    have := h.a
    cases al with
    | none => exact ⟨_, this.1⟩
    | some os => obtain ⟨v, k1, -⟩ := this; exact ⟨_, k1⟩
  have a5 : ∃ cs5, Bk w (H + 5) 2 [cs5] := by
    have := h.a
    cases al with
    | none => exact ⟨_, this.2⟩
    | some os => obtain ⟨v, -, k1, -⟩ := this; exact ⟨_, k1⟩
  obtain ⟨c4, a4⟩ := a4
  obtain ⟨c5, a5⟩ := a5
  have hk : Kept (fun b => b = H + 4 ∨ b = H + 5) w ((w.setCell ⟨H + 4, 0, none⟩ v).setCell ⟨H + 5, 0, none⟩ (.int .i64 (endO os))) := ((Kept.refl _ w).set _ _ (.inl rfl)).set _ _ (.inr rfl)
  refine ⟨h.s.kept hk (by omega), h.p.kept hk (by omega), h.l.kept hk (by omega), h.t.kept hk (by omega), ⟨v, ?_, ?_, h0, hv.kept hk (fun b hb e => (hn b hb).1 ⟨by omega, by omega⟩), hn⟩, h.sl.kept hk (fun hp b hb e => by have := h.far hp b hb; omega), h.far, h.hg⟩
  · exact Bk.other (a4.set 0 v) (by omega) _
  · exact Bk.set (Bk.other a5 (by omega) v) 0 _
end
set_option maxHeartbeats 2000000 in
theorem looks_best (H g : Nat) (s : ByteArray) (a b c x y t : Int) (lv : Value) (ws : List WorkD) (h1 : 1 ≤ a) (h2 : a ≤ 2000) (hw : worksB ws = true) (hp : pointB x y = true) (ht : 0 ≤ t) (ht2 : t ≤ 4320) (hg : ¬ Mem6 H g) :
    Looks (Mem6 H) g H ws.length (FineO a b x y t ws) 81 #[.pointer (some ⟨H, 0, none⟩), .pointer (some ⟨H + 1, 0, none⟩), .pointer (some ⟨H + 2, 0, none⟩), .pointer (some ⟨H + 3, 0, none⟩), .pointer (some ⟨H + 5, 0, none⟩), .pointer (some ⟨H + 4, 0, none⟩)]
      (bestI (fun os => endV a b x y ws os t) ws.length) (BestS (fun os => endV a b x y ws os t) H g s a b c x y t lv ws) := by
  refine ⟨fun w w' al h hk => h.kept hk, ?_, hg, enter_of (fn := Try.f81) Try.func81 (by kernel_rfl) (by kernel_rfl)⟩
  intro w al os v hR hS hA hl hF
  obtain ⟨adv, cpv, rfl⟩ := hS.1.form
  obtain ⟨adl, cpl, rfl⟩ := hR.sl.form
  obtain ⟨ho, hld, -⟩ := hF.out
  have hE := fine_end h1 h2 hw hp ht ht2 hF
  have h12 := (works_all hw).1
  have s0 := hR.s.cell 0 rfl
  have s1 := hR.s.cell 1 rfl
  have s2 := hR.s.cell 2 rfl
  have s3 := hR.s.cell 3 rfl
  have p0 := hR.p.cell 0 rfl
  have p1 := hR.p.cell 1 rfl
  have l0 := hR.l.cell 0 rfl
  have t0 := hR.t.cell 0 rfl
  have ce := c_end s a b c x y t (.slice adl ws.length cpl) (.slice adv os.length cpv) ws os w h1 h2 hR.sl hw (hS.1.mono (Nat.zero_le _)) ho (by omega) hp ht ht2
  obtain ⟨E, hEE⟩ : ∃ z, endV a b x y ws os t = z := ⟨_, rfl⟩
  rw [hEE] at ce hE
  generalize voyC a b x y ws os t = vc at ce
  have HEE := hid hEE
  have HR := hid hR
  have HS := hid hS
  have HA := hid hA
  clear hR hS hA hEE hF ho hld
  show Calls _ _ #[_, _, _, _, _, _, _] _ _
  go_enter Try.func81, Try.ntmps81
  go_wp2_with fail
  refine ce.mono ?_
  rintro e w1 ⟨rfl, hb1⟩
  have R1 := HR.out.below hb1
  have S1 : SlO w1 H 1 encI (.slice adv os.length cpv) os := HS.out.below hb1 (Nat.le_refl _)
  have m0 := R1.l.cell 0 rfl
  clear s0 s1 s2 s3 p0 p1 l0 t0 ce
  have hK1 := hid (Kept.of (M := Mem6 H) hb1)
  clear hb1
  by_cases hm : os.length = ws.length
  · have hmB : ((os.length : Int) == (ws.length : Int)) = true := by rw [hm]; simp
    have HM := hid hm
    cases al with
    | none =>
      obtain ⟨k4, k5⟩ := R1.a
      have z4 := k4.cell 0 rfl
      have f4 := k4.fr 0
      have z5 := k5.cell 0 rfl
      have f5 := k5.fr 0
      have HR1 := hid R1
      have HS1 := hid S1
      clear R1 S1 k4 k5 hm
      have z5' : (w1.setCell ⟨H + 4, 0, none⟩ (.slice adv os.length cpv)).cell? ⟨H + 5, 0, none⟩ = some (.int .i64 (-1)) := by rw [World.cell?_setCell_other w1 _ _ _ (fun hh => by have := (Addr.mk.injEq .. ▸ hh); omega)]; exact z5
      have f5' : (w1.setCell ⟨H + 4, 0, none⟩ (.slice adv os.length cpv)).frozen? ⟨H + 5, 0, none⟩ = false := by rw [World.frozen?_setCell]; exact f5
      go_wp2_with fail
      go_ret
      refine ⟨rfl, ?_, ?_⟩
      · have hb : (bestI (fun os => endV a b x y ws os t) ws.length none os).1 = some os := by simp only [bestI, if_pos HM.out]
        rw [hb]
        have := HR1.out.put HS1.out HA.out (by show 0 ≤ endV a b x y ws os t; rw [HEE.out]; exact hE.1)
        rw [show endV a b x y ws os t = E from HEE.out] at this
        exact this
      · exact (hK1.out.set _ _ ⟨by simp, by simp⟩).set _ _ ⟨by simp, by simp⟩
    | some o =>
      obtain ⟨vo, k4, k5, k0, kS, kn⟩ := R1.a
      obtain ⟨O, hO⟩ : ∃ z, endV a b x y ws o t = z := ⟨_, rfl⟩
      have k5' : Bk w1 (H + 5) 2 [.int .i64 O] := by rw [← hO]; exact k5
      have k0' : 0 ≤ O := by rw [← hO]; exact k0
      obtain ⟨ado, cpo, rfl⟩ := kS.1.form
      have z4 := k4.cell 0 rfl
      have f4 := k4.fr 0
      have z5 := k5'.cell 0 rfl
      have f5 := k5'.fr 0
      have HO := hid hO
      have HR1 := hid R1
      have HS1 := hid S1
      clear R1 S1 k4 k5 k5' kS kn k0 hm hO
      by_cases hlt : E < O
      · have z5' : (w1.setCell ⟨H + 4, 0, none⟩ (.slice adv os.length cpv)).cell? ⟨H + 5, 0, none⟩ = some (.int .i64 O) := by rw [World.cell?_setCell_other w1 _ _ _ (fun hh => by have := (Addr.mk.injEq .. ▸ hh); omega)]; exact z5
        have f5' : (w1.setCell ⟨H + 4, 0, none⟩ (.slice adv os.length cpv)).frozen? ⟨H + 5, 0, none⟩ = false := by rw [World.frozen?_setCell]; exact f5
        go_wp2_with fail
        go_ret
        refine ⟨rfl, ?_, ?_⟩
        · have hb : (bestI (fun os => endV a b x y ws os t) ws.length (some o) os).1 = some os := by simp only [bestI, if_pos HM.out]; exact if_pos (by show endV a b x y ws os t < endV a b x y ws o t; rw [HEE.out, HO.out]; exact hlt)
          rw [hb]
          have := HR1.out.put HS1.out HA.out (by show 0 ≤ endV a b x y ws os t; rw [HEE.out]; exact hE.1)
          rw [show endV a b x y ws os t = E from HEE.out] at this
          exact this
        · exact (hK1.out.set _ _ ⟨by simp, by simp⟩).set _ _ ⟨by simp, by simp⟩
      · go_wp2_with fail
        go_ret
        have hb : (bestI (fun os => endV a b x y ws os t) ws.length (some o) os).1 = some o := by simp only [bestI, if_pos HM.out]; exact if_neg (by show ¬ endV a b x y ws os t < endV a b x y ws o t; rw [HEE.out, HO.out]; omega)
        exact ⟨rfl, by rw [hb]; exact HR1.out, hK1.out⟩
  · have hmB : ((os.length : Int) == (ws.length : Int)) = false := by rw [beq_eq_false_iff_ne]; omega
    have hb : (bestI (fun os => endV a b x y ws os t) ws.length al os).1 = al := by simp only [bestI, if_neg hm]
    have HB := hid hb
    have HR1 := hid R1
    clear R1 S1 hm hb
    go_wp2_with fail
    go_ret
    exact ⟨rfl, by rw [HB.out]; exact HR1.out, hK1.out⟩
def bvA (a b x y : Int) (ws : List WorkD) (t q : Int) : Res (Option (List Int)) := seekF (bestI (fun os => endV a b x y ws os t) ws.length) a b x y ws t q none
def bvC (s : ByteArray) (a b c x y : Int) (ws : List WorkD) (t q : Int) : Int := if rtC s a b c x y ws t q (bvA a b x y ws t q).code = 0 then (if (bvA a b x y ws t q).ans.isSome then 0 else 3) else rtC s a b c x y ws t q (bvA a b x y ws t q).code
def bvL (s : ByteArray) (a b c x y : Int) (ws : List WorkD) (t q : Int) : List Int := if rtC s a b c x y ws t q (bvA a b x y ws t q).code = 0 then (bvA a b x y ws t q).ans.getD [] else []
set_option maxHeartbeats 2000000 in
theorem c_impl_BestVoyage (s : ByteArray) (a b c x y : Int) (v : Value) (ws : List WorkD) (t q : Int) (w : World) (hs : s.size ≤ maxLen) (h : SlA w 0 7 encWork v ws) (hok : ∀ x ∈ ws, okWork x) (h1 : 1 ≤ a) (h2 : a ≤ 2000) (hw : worksB ws = true) (hp : pointB x y = true) (ht : 0 ≤ t) (ht2 : t ≤ 4320) :
    Calls Try.prog 32 #[.agg #[.string s, .int .i64 a, .int .i64 b, .int .i64 c], .agg #[.int .i64 x, .int .i64 y], v, .int .i64 t, .int .i64 q] w fun e w' => OrderCode w w' (bvL s a b c x y ws t q) (bvC s a b c x y ws t q) e := by
  obtain ⟨adl, cpl, hvf⟩ := h.form
  subst hvf
  have H := h
  have HFar := hid (fun hp => far_of h hp)
  clear h
  have HC := hid (show bvC s a b c x y ws t q = if rtC s a b c x y ws t q (bvA a b x y ws t q).code = 0 then (if (bvA a b x y ws t q).ans.isSome then 0 else 3) else rtC s a b c x y ws t q (bvA a b x y ws t q).code from rfl)
  have HV := hid (show bvL s a b c x y ws t q = if rtC s a b c x y ws t q (bvA a b x y ws t q).code = 0 then (bvA a b x y ws t q).ans.getD [] else [] from rfl)
  go_enter Try.func32, Try.ntmps32
  go_wp2_with fail
  obtain ⟨W5, hW5⟩ : ∃ z, z = (((((w.alloc (Obj.cells #[.string s, .int .i64 a, .int .i64 b, .int .i64 c] 25)).alloc (Obj.cells #[.int .i64 x, .int .i64 y] 33)).alloc (Obj.cells #[.slice adl ws.length cpl] 27)).alloc (Obj.cells #[.int .i64 t] 2)).alloc (Obj.cells #[.slice none 0 0] 29)).alloc (Obj.cells #[.int .i64 (-1)] 2) := ⟨_, rfl⟩
  rw [← hW5]
  have hB5 : Below w.heap.size w W5 := by rw [hW5]; (repeat' (first | (with_reducible exact Below.refl _ _) | (with_reducible refine Below.alloc ?_ ?_ _) | (with_reducible refine Below.drew ?_) | (with_reducible refine below_drewN ?_ _) | (with_reducible refine Below.setCell ?_ ?_ _) | (with_reducible refine below_via ‹_› ?_ ?_) | (with_reducible refine below_grow ?_ ?_ _ _) | omega | (simp; done) | (simp; omega)))
  have hz5 : W5.heap.size = w.heap.size + 6 := by rw [hW5]; simp
  have R0 : Bk W5 w.heap.size 25 [.string s, .int .i64 a, .int .i64 b, .int .i64 c] ∧ Bk W5 (w.heap.size + 1) 33 [.int .i64 x, .int .i64 y] ∧ Bk W5 (w.heap.size + 2) 27 [.slice adl ws.length cpl] ∧ Bk W5 (w.heap.size + 3) 2 [.int .i64 t] ∧ Bk W5 (w.heap.size + 4) 29 [.slice none 0 0] ∧ Bk W5 (w.heap.size + 5) 2 [.int .i64 (-1)] := by
    rw [hW5]
    exact ⟨(by (repeat' (first | (with_reducible exact Bk.new _ _ _) | (with_reducible refine Bk.new1 ?_; first | rfl | (simp; done) | omega) | (with_reducible assumption) | (with_reducible refine Bk.alloc ?_ _) | (with_reducible refine Bk.drew ?_) | (with_reducible refine Bk.drewN ?_ _) | (with_reducible refine Bk.other ?_ ?_ _) | (with_reducible apply Bk.drewBy; with_reducible assumption) | (with_reducible apply Bk.viaB; with_reducible assumption) | omega | (simp; done)))), (by (repeat' (first | (with_reducible exact Bk.new _ _ _) | (with_reducible refine Bk.new1 ?_; first | rfl | (simp; done) | omega) | (with_reducible assumption) | (with_reducible refine Bk.alloc ?_ _) | (with_reducible refine Bk.drew ?_) | (with_reducible refine Bk.drewN ?_ _) | (with_reducible refine Bk.other ?_ ?_ _) | (with_reducible apply Bk.drewBy; with_reducible assumption) | (with_reducible apply Bk.viaB; with_reducible assumption) | omega | (simp; done)))), (by (repeat' (first | (with_reducible exact Bk.new _ _ _) | (with_reducible refine Bk.new1 ?_; first | rfl | (simp; done) | omega) | (with_reducible assumption) | (with_reducible refine Bk.alloc ?_ _) | (with_reducible refine Bk.drew ?_) | (with_reducible refine Bk.drewN ?_ _) | (with_reducible refine Bk.other ?_ ?_ _) | (with_reducible apply Bk.drewBy; with_reducible assumption) | (with_reducible apply Bk.viaB; with_reducible assumption) | omega | (simp; done)))), (by (repeat' (first | (with_reducible exact Bk.new _ _ _) | (with_reducible refine Bk.new1 ?_; first | rfl | (simp; done) | omega) | (with_reducible assumption) | (with_reducible refine Bk.alloc ?_ _) | (with_reducible refine Bk.drew ?_) | (with_reducible refine Bk.drewN ?_ _) | (with_reducible refine Bk.other ?_ ?_ _) | (with_reducible apply Bk.drewBy; with_reducible assumption) | (with_reducible apply Bk.viaB; with_reducible assumption) | omega | (simp; done)))), (by (repeat' (first | (with_reducible exact Bk.new _ _ _) | (with_reducible refine Bk.new1 ?_; first | rfl | (simp; done) | omega) | (with_reducible assumption) | (with_reducible refine Bk.alloc ?_ _) | (with_reducible refine Bk.drew ?_) | (with_reducible refine Bk.drewN ?_ _) | (with_reducible refine Bk.other ?_ ?_ _) | (with_reducible apply Bk.drewBy; with_reducible assumption) | (with_reducible apply Bk.viaB; with_reducible assumption) | omega | (simp; done)))), (by (repeat' (first | (with_reducible exact Bk.new _ _ _) | (with_reducible refine Bk.new1 ?_; first | rfl | (simp; done) | omega) | (with_reducible assumption) | (with_reducible refine Bk.alloc ?_ _) | (with_reducible refine Bk.drew ?_) | (with_reducible refine Bk.drewN ?_ _) | (with_reducible refine Bk.other ?_ ?_ _) | (with_reducible apply Bk.drewBy; with_reducible assumption) | (with_reducible apply Bk.viaB; with_reducible assumption) | omega | (simp; done))))⟩
  rw [show w.heap.size + 1 + 1 = w.heap.size + 2 from rfl, show w.heap.size + 2 + 1 = w.heap.size + 3 from rfl, show w.heap.size + 3 + 1 = w.heap.size + 4 from rfl, show w.heap.size + 4 + 1 = w.heap.size + 5 from rfl]
  obtain ⟨r0, r1, r2, r3, r4, r5⟩ := R0
  have hM : ∀ k, Mem6 w.heap.size k → w.heap.size ≤ k ∧ k < W5.heap.size := fun k hk => ⟨hk.1, by have := hk.2; omega⟩
  have cr := c_routes (Mem6 w.heap.size) w.heap.size 81 _ (bestI (fun os => endV a b x y ws os t) ws.length) (fun g => BestS (fun os => endV a b x y ws os t) w.heap.size g s a b c x y t (.slice adl ws.length cpl) ws) s a b c x y t q adl cpl ws W5 none hs (H.at hB5) hok HFar.out (by omega) hM
    (fun g hg => looks_best w.heap.size g s a b c x y t _ ws h1 h2 hw hp ht ht2 hg)
    (fun g w' hb hg => ⟨r0.below hb, r1.below hb, r2.below hb, r3.below hb, ⟨r4.below hb, r5.below hb⟩, H.at (hB5.trans (hb.mono hB5.size)), HFar.out, by omega⟩)
  have hB0 : ∀ w', Kept (Mem6 w.heap.size) W5 w' → Below w.heap.size w w' := fun w' hk => hB5.trans (hk.below hB5.size fun k h => (hM k h).1)
  clear hW5 hM hB5 r0 r1 r2 r3 r4 r5
  change Calls _ _ _ _ fun e w' => RoutesR _ _ _ _ (rtC s a b c x y ws t q (bvA a b x y ws t q).code) (bvA a b x y ws t q).ans e at cr
  obtain ⟨r, hr⟩ : ∃ r, r = bvA a b x y ws t q := ⟨_, rfl⟩
  rw [← hr] at cr HC HV
  obtain ⟨code, hcode⟩ : ∃ z, z = rtC s a b c x y ws t q r.code := ⟨_, rfl⟩
  rw [← hcode] at cr HC HV
  clear hr hcode
  by_cases h0 : code = 0
  · subst h0
    cases ha : r.ans with
    | none =>
      have HC2 := hid (show bvC s a b c x y ws t q = 3 by rw [HC.out, if_pos rfl, ha]; rfl)
      have HV2 := hid (show bvL s a b c x y ws t q = [] by rw [HV.out, if_pos rfl, ha]; rfl)
      rw [ha] at cr
      clear ha
      refine cr.mono ?_
      rintro e w5 ⟨rfl, hK, hR⟩
      obtain ⟨g, hR⟩ := hR rfl
      have hB := hB0 _ hK
      have k5 := hR.a.2.cell 0 rfl
      clear hR
      go_wp2_with fail
      go_ret2
      rw [HC2.out]
      exact orderCode_none hB HV2.out
    | some os =>
      have HC2 := hid (show bvC s a b c x y ws t q = 0 by rw [HC.out, if_pos rfl, ha]; rfl)
      have HV2 := hid (show bvL s a b c x y ws t q = os by rw [HV.out, if_pos rfl, ha]; rfl)
      rw [ha] at cr
      clear ha
      refine cr.mono ?_
      rintro e w5 ⟨rfl, hK, hR⟩
      obtain ⟨g, hR⟩ := hR rfl
      have hB := hB0 _ hK
      obtain ⟨v, k4, k5, k0, kS, -⟩ := hR.a
      obtain ⟨E, hE⟩ : ∃ z, endV a b x y ws os t = z := ⟨_, rfl⟩
      have k5' : Bk w5 (w.heap.size + 5) 2 [.int .i64 E] := by rw [← hE]; exact k5
      have k0' : 0 ≤ E := by rw [← hE]; exact k0
      have y5 := k5'.cell 0 rfl
      have y4 := k4.cell 0 rfl
      have K3 := hid kS
      obtain ⟨adv, cpv, rfl⟩ := kS.1.form
      clear hR k4 k5 k5' kS k0 hE
      go_wp2_with fail
      go_ret2
      rw [HC2.out, HV2.out]
      exact slO_orderCode hB K3.out
  · have hne : (code != 0) = true := by simpa using h0
    have HC2 := hid (show bvC s a b c x y ws t q = code by rw [HC.out, if_neg h0])
    have HV2 := hid (show bvL s a b c x y ws t q = [] by rw [HV.out, if_neg h0])
    clear h0
    refine cr.mono ?_
    rintro e w5 ⟨rfl, hK, -⟩
    have hB := hB0 _ hK
    go_wp2_with fail
    go_ret2
    rw [HC2.out]
    exact orderCode_none hB HV2.out
end Go.Proofs.Ytmolcfagmiecjaa
