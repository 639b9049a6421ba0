/- 'FnRoutes' returns true for every input: the best voyage ends no later than any other that is found; there is one exactly if some are counted; as many works as possible are at least as many as of any voyage. No condition. -/
import Derived.Test.YtmolcfagmiecjaaSeekB
import Derived.Test.YtmolcfagmiecjaaDrawV
import Derived.Test.YtmolcfagmiecjaaGreedI
import Derived.Deep.RegionHeld3
namespace Go.Proofs.Ytmolcfagmiecjaa.lawFnRoutes
open Go.RowKit Go.Sort
set_option linter.unusedVariables false
set_option maxRecDepth 100000

/-! ### the plain law -/
theorem fine_ve {s : ByteArray} {a b c x y : Int} {ws : List WorkD} {os : List Int} (hs : shipB s a b c = true) (hp : pointB x y = true) (hw : worksB ws = true) (hf : FineO a b x y 0 ws os) : voC s a b c x y ws os 0 = 0 ∧ veV s a b c x y ws os 0 = endV a b x y ws os 0 := by
  obtain ⟨cs, P⟩ := plan_ok hs hp hw hf
  have ha : askC s a b c x y ws os 0 = 0 := askC_mk hs hp hw (by omega) (by omega) P.ord
  have hv := P.voc
  have h1 : voyC a b x y ws os 0 = 0 := by rw [voC, if_pos ha] at hv; exact hv
  exact ⟨hv, by rw [veV, if_pos hv, endV, if_pos h1]⟩
structure RoutesP (s : ByteArray) (a b c x y : Int) (ws : List WorkD) (F B G M : List Int) (fc N : Int) : Prop where
  bvc : bvC s a b c x y ws 0 4000 = fc
  cvc : cvC s a b c x y ws 0 4000 = 0
  mwc : mwC s a b c x y ws 0 4000 = 0
  grc : askN s a b c x y ws 0 = 0
  cnt : (fc = 0 ∧ 0 < N ∧ M.length = ws.length) ∨ (fc = 3 ∧ N = 0 ∧ M.length < ws.length)
  n1 : 0 ≤ N ∧ N ≤ 4000
  vm : voC s a b c x y ws M 0 = 0
  vg : voC s a b c x y ws G 0 = 0
  rm : orC ws M = 0 ∧ (resV ws M).length + M.length = ws.length
  gm : G.length ≤ M.length
  fst : fc = 0 → F.length = ws.length ∧ B.length = ws.length ∧ voC s a b c x y ws F 0 = 0 ∧ voC s a b c x y ws B 0 = 0 ∧ veV s a b c x y ws B 0 ≤ veV s a b c x y ws F 0 ∧ (G.length = ws.length → veV s a b c x y ws B 0 ≤ veV s a b c x y ws G 0)
theorem routes_ok {s : ByteArray} {a b c x y : Int} {ws : List WorkD} (hs : shipB s a b c = true) (hp : pointB x y = true) (hw : worksB ws = true) (hl : ws.length ≤ 5) :
    RoutesP s a b c x y ws (fvL s a b c x y ws 0 4000) (bvL s a b c x y ws 0 4000) (grL s a b c x y ws 0) (mwL s a b c x y ws 0 4000) (fvC s a b c x y ws 0 4000) (cvV s a b c x y ws 0 4000) := by
  have sh := shipB_true hs
  have hN : askN s a b c x y ws 0 = 0 := askC_mk hs hp hw (by omega) (by omega) rfl
  have hT := allT_len (a := a) (b := b) (x := x) (y := y) (t := 0) hl
  have hF := allT_fine (a := a) (b := b) (x := x) (y := y) (t := 0) (ws := ws) (by omega)
  have hrt : ∀ z, z ≠ 5 → rtC s a b c x y ws 0 4000 z = 0 := fun z hz => by
    rw [rtC, if_pos hN, show inB 4000 1 20000 = true from inB_of (by omega) (by omega)]
    simp [hz]
  have f5 : (fvA a b x y ws 0 4000).code ≠ 5 := goF_free _ _ _ hT
  have b5 : (bvA a b x y ws 0 4000).code ≠ 5 := goF_free _ _ _ hT
  have c5 : (cvA a b x y ws 0 4000).code ≠ 5 := goF_free _ _ _ hT
  have m5 : (mwA a b x y ws 0 4000).code ≠ 5 := goF_free _ _ _ hT
  have rf := hrt _ f5
  have rb := hrt _ b5
  have rc := hrt _ c5
  have rm := hrt _ m5
  have cc : cvC s a b c x y ws 0 4000 = 0 := rc
  have mc : mwC s a b c x y ws 0 4000 = 0 := rm
  have hG : grL s a b c x y ws 0 ∈ allT a b x y ws 0 := by
    rw [grL, if_pos hN]; exact greed_in _ _ (fine_nil (by omega)) (tree_head _ _ _ _)
  -- the most works
  have hM : mwL s a b c x y ws 0 4000 = (allT a b x y ws 0).foldl (fun a os => (mostI a os).1) [] := by
    rw [mwL, if_pos mc]
    exact (goF_fold (fun a os => by unfold mostI; split <;> rfl) _ _ _ hT).1
  obtain ⟨m1, -, m3⟩ := fold_most (allT a b x y ws 0) []
  rw [← hM] at m1 m3
  have hMT : mwL s a b c x y ws 0 4000 ∈ allT a b x y ws 0 := by
    rcases m1 with e | e
    · rw [e]; exact tree_head _ _ _ _
    · exact e
  have fM := hF _ hMT
  obtain ⟨px, py, n, l, gS⟩ := fM
  have fM := hF _ hMT
  -- how many
  obtain ⟨k, k1, k2, k3⟩ := fold_count ws.length (allT a b x y ws 0) 0 (by omega)
  have hC : cvV s a b c x y ws 0 4000 = (k : Int) := by
    rw [cvV, if_pos cc]
    have := (goF_fold (reach := countI ws.length) (fun a os => by unfold countI; split <;> rfl) (allT a b x y ws 0) 4000 0 hT).1
    rw [Nat.zero_add] at k1
    rw [show cvA a b x y ws 0 4000 = goF (countI ws.length) (allT a b x y ws 0) 4000 0 from rfl, this]
    exact k1
  -- the first
  have hfst := go_first ws.length (allT a b x y ws 0) 4000 hT
  have hfv : fvA a b x y ws 0 4000 = goF (firstI ws.length) (allT a b x y ws 0) 4000 none := rfl
  rw [← hfv] at hfst
  -- the best
  have hbst := fold_best0 (fun os => endV a b x y ws os 0) ws.length (allT a b x y ws 0)
  have hbv : (bvA a b x y ws 0 4000).ans = (allT a b x y ws 0).foldl (fun al os => (bestI (fun os => endV a b x y ws os 0) ws.length al os).1) none :=
    (goF_fold (reach := bestI (fun os => endV a b x y ws os 0) ws.length) (fun al os => rfl) (allT a b x y ws 0) 4000 none hT).1
  rw [← hbv] at hbst
  have one : ∀ os ∈ allT a b x y ws 0, voC s a b c x y ws os 0 = 0 ∧ veV s a b c x y ws os 0 = endV a b x y ws os 0 := fun os ho => fine_ve hs hp hw (hF os ho)
  have hrl := rest_len gS.ord gS.nodup
  have hrest : orC ws (mwL s a b c x y ws 0 4000) = 0 ∧ (resV ws (mwL s a b c x y ws 0 4000)).length + (mwL s a b c x y ws 0 4000).length = ws.length := by
    refine ⟨by simp [orC, hw, gS.ord], ?_⟩
    rw [resV, hw, gS.ord]; exact hrl
  have hMl := fM.len
  rcases hbst with ⟨B, B1, B2, B3, B4⟩ | ⟨B1, B2⟩
  · rcases hfst with ⟨F, F1, F2, F3⟩ | ⟨F3, F2⟩
    · have hk : 0 < k := k2.2 ⟨B, B1, B3⟩
      have e1 : fvC s a b c x y ws 0 4000 = 0 := by rw [fvC, if_pos rf, F3]; rfl
      have e2 : fvL s a b c x y ws 0 4000 = F := by rw [fvL, if_pos rf, F3]; rfl
      have e3 : bvC s a b c x y ws 0 4000 = 0 := by rw [bvC, if_pos rb, B2]; rfl
      have e4 : bvL s a b c x y ws 0 4000 = B := by rw [bvL, if_pos rb, B2]; rfl
      have hM2 := m3 F F1
      refine ⟨by rw [e1, e3], cc, mc, hN, .inl ⟨e1, by omega, by omega⟩, by omega, (one _ hMT).1, (one _ hG).1, hrest, m3 _ hG, fun _ => ?_⟩
      rw [e2, e4, (one B B1).2, (one F F1).2, (one _ hG).2]
      exact ⟨F2, B3, (one F F1).1, (one B B1).1, B4 F F1 F2, fun h => B4 _ hG h⟩
    · exact absurd B3 (F2 B B1)
  · rcases hfst with ⟨F, F1, F2, F3⟩ | ⟨F3, F2⟩
    · exact absurd F2 (B2 F F1)
    · have hk : ¬ 0 < k := fun h => by obtain ⟨os, h1, h2⟩ := k2.1 h; exact B2 os h1 h2
      have e1 : fvC s a b c x y ws 0 4000 = 3 := by rw [fvC, if_pos rf, F3]; rfl
      have e3 : bvC s a b c x y ws 0 4000 = 3 := by rw [bvC, if_pos rb, B1]; rfl
      have hM2 := B2 _ hMT
      refine ⟨by rw [e1, e3], cc, mc, hN, .inr ⟨e1, by omega, by omega⟩, by omega, (one _ hMT).1, (one _ hG).1, hrest, m3 _ hG, fun h => by rw [e1] at h; omega⟩

/-! ### the walk -/
def LongR (n m : Nat) (w : World) (e : Ending) (w' : World) : Prop := ∃ b : Bool, e = .returned (.bool b) ∧ (b = false → n ≤ 1048576 ∧ m ≤ 1048576) ∧ w = w'
theorem c_r8Long (n m : Nat) (ad ad' : Option Addr) (c c' : Nat) (w : World) :
    Calls Try.prog 15 #[.slice ad n c, .slice ad' m c'] w (LongR n m w) := by
  go_enter Try.func15, Try.ntmps15
  go_wp2
  all_goals (go_ret; refine ⟨_, rfl, fun h => ?_, rfl⟩; first | (simp at h; done) | (simp at h; omega))
theorem c_r8Base (w : World) : Calls Try.prog 19 #[] w fun e w' => e = .returned (.agg #[.int .i64 20000, .int .i64 20000]) ∧ Below w.heap.size w w' := by
  go_enter Try.func19, Try.ntmps19
  go_wp2
  refine bodyPost_ret (v := .agg #[.int .i64 20000, .int .i64 20000]) (by simp [results, Try.results19, go_sem]) rfl ⟨rfl, by (repeat' (first | (with_reducible exact Below.refl _ _) | (with_reducible refine Below.alloc ?_ ?_ _) | (with_reducible refine Below.drew ?_) | (with_reducible refine below_drewN ?_ _) | (with_reducible refine Below.setCell ?_ ?_ _) | (with_reducible refine below_via ‹_› ?_ ?_) | (with_reducible refine below_grow ?_ ?_ _ _) | omega | (simp; done) | (simp; omega)))⟩

theorem bk_since {W : World} {X i : Nat} {T : TypeId} {cs : List Value} (h : Bk W X T cs) {u : Value} (hu : cs[i]? = some u) : ∀ w', Since W w' → w'.cell? ⟨X, i, none⟩ = some u := fun w' hs => below_cell hs.out h.lt (h.cell i hu)
section
variable {s : ByteArray} {a b c : Int} {ws : List WorkD} {os F B G M : List Int} {fc N : Int} {v u : Value} {w : World}
theorem r_best (P : RoutesP s a b c 20000 20000 ws F (bvL s a b c 20000 20000 ws 0 4000) G M fc N) (hv : shipB s a b c = true) (hs : s.size ≤ maxLen) (hw : worksB ws = true) (h : SlA w 0 7 encWork v ws) (hok : ∀ x ∈ ws, okWork x) :
    Calls Try.prog 32 #[.agg #[.string s, .int .i64 a, .int .i64 b, .int .i64 c], .agg #[.int .i64 20000, .int .i64 20000], v, .int .i64 0, .int .i64 4000] w fun e w' => OrderCode w w' (bvL s a b c 20000 20000 ws 0 4000) fc e := by
  have sh := shipB_true hv
  have := c_impl_BestVoyage s a b c 20000 20000 v ws 0 4000 w hs h hok (by omega) (by omega) hw (by decide) (by omega) (by omega)
  rw [P.bvc] at this; exact this
theorem r_count (P : RoutesP s a b c 20000 20000 ws F B G M fc (cvV s a b c 20000 20000 ws 0 4000)) (hs : s.size ≤ maxLen) (h : SlA w 0 7 encWork v ws) (hok : ∀ x ∈ ws, okWork x) :
    Calls Try.prog 33 #[.agg #[.string s, .int .i64 a, .int .i64 b, .int .i64 c], .agg #[.int .i64 20000, .int .i64 20000], v, .int .i64 0, .int .i64 4000] w fun e w' => e = .returned (.tuple #[.int .i64 (cvV s a b c 20000 20000 ws 0 4000), .int .i64 0]) ∧ Below w.heap.size w w' := by
  have := c_impl_CountVoyages s a b c 20000 20000 v ws 0 4000 w hs h hok
  rw [P.cvc] at this; exact this
theorem r_most (P : RoutesP s a b c 20000 20000 ws F B G (mwL s a b c 20000 20000 ws 0 4000) fc N) (hs : s.size ≤ maxLen) (h : SlA w 0 7 encWork v ws) (hok : ∀ x ∈ ws, okWork x) :
    Calls Try.prog 34 #[.agg #[.string s, .int .i64 a, .int .i64 b, .int .i64 c], .agg #[.int .i64 20000, .int .i64 20000], v, .int .i64 0, .int .i64 4000] w fun e w' => OrderCode w w' (mwL s a b c 20000 20000 ws 0 4000) 0 e := by
  have := c_impl_MostWorks s a b c 20000 20000 v ws 0 4000 w hs h hok
  rw [P.mwc] at this; exact this
theorem r_greedy (P : RoutesP s a b c 20000 20000 ws F B (grL s a b c 20000 20000 ws 0) M fc N) (hs : s.size ≤ maxLen) (h : SlA w 0 7 encWork v ws) (hok : ∀ x ∈ ws, okWork x) :
    Calls Try.prog 35 #[.agg #[.string s, .int .i64 a, .int .i64 b, .int .i64 c], .agg #[.int .i64 20000, .int .i64 20000], v, .int .i64 0] w fun e w' => OrderCode w w' (grL s a b c 20000 20000 ws 0) 0 e := by
  have := c_impl_GreedyVoyage s a b c 20000 20000 v ws 0 w hs h hok
  rw [P.grc] at this; exact this
def SomeCode (k : Int) (w : World) (e : Ending) (w' : World) : Prop := ∃ x, e = .returned (.tuple #[x, .int .i64 k]) ∧ Below w.heap.size w w'
theorem r_vo (hk : voC s a b c 20000 20000 ws os 0 = 0) (hs : s.size ≤ maxLen) (h : SlA w 0 7 encWork v ws) (hok : ∀ x ∈ ws, okWork x) (hu : SlA w 0 1 encI u os) (hl : os.length ≤ 1048576) :
    Calls Try.prog 36 #[.agg #[.string s, .int .i64 a, .int .i64 b, .int .i64 c], .agg #[.int .i64 20000, .int .i64 20000], v, u, .int .i64 0] w (SomeCode 0 w) := by
  refine (c_spec_VoyageOf s a b c 20000 20000 v u ws os 0 w hs h hok hu hl).mono ?_
  rintro e w' ⟨x, rfl, hb, -⟩
  exact ⟨x, by rw [hk], hb⟩
theorem r_ve (hk : voC s a b c 20000 20000 ws os 0 = 0) {E : Int} (hE : veV s a b c 20000 20000 ws os 0 = E) (hs : s.size ≤ maxLen) (h : SlA w 0 7 encWork v ws) (hok : ∀ x ∈ ws, okWork x) (hu : SlA w 0 1 encI u os) (hl : os.length ≤ 1048576) :
    Calls Try.prog 38 #[.agg #[.string s, .int .i64 a, .int .i64 b, .int .i64 c], .agg #[.int .i64 20000, .int .i64 20000], v, u, .int .i64 0] w fun e w' => e = .returned (.tuple #[.int .i64 E, .int .i64 0]) ∧ Below w.heap.size w w' := by
  have := c_spec_VoyageEnd s a b c 20000 20000 v u ws os 0 w hs h hok hu hl
  rw [hk, hE] at this; exact this
end
set_option maxHeartbeats 4000000 in
theorem walk (v0 : Value) (bs0 : List Int) (v1 : Value) (bs1 : List Int) (w : World) (h0 : SlA w 0 1 encU v0 bs0) (k0 : ∀ x ∈ bs0, 0 ≤ x ∧ x ≤ 255) (h1 : SlA w 0 1 encU v1 bs1) (k1 : ∀ x ∈ bs1, 0 ≤ x ∧ x ≤ 255) :
    Calls Try.prog 5 #[v0, v1] w fun e w' => e = .returned (.bool true) ∧ Below w.heap.size w w' := by
  obtain ⟨ad0, cp0, rfl⟩ := h0.form
  obtain ⟨ad1, cp1, rfl⟩ := h1.form
  go_enter Try.func5, Try.ntmps5
  go_wp2_with fail
  refine (c_r8Long _ _ _ _ _ _ _).mono ?_
  rintro e w' ⟨bb, rfl, hlen, rfl⟩
  cases bb with
  | true =>
    go_wp2_with fail
    go_ret
    exact ⟨rfl, Below.refl _ _⟩
  | false =>
    obtain ⟨hl0, hl1⟩ := hlen rfl
    clear hlen
    go_wp2_with fail
    refine (c_R8Ship _ bs1 _ (by first | (with_reducible assumption) | (with_reducible apply SlO.at; (with_reducible assumption); (repeat' (first | (with_reducible exact Below.refl _ _) | (with_reducible refine Below.alloc ?_ ?_ _) | (with_reducible refine Below.drew ?_) | (with_reducible refine below_drewN ?_ _) | (with_reducible refine Below.setCell ?_ ?_ _) | (with_reducible refine below_via ‹_› ?_ ?_) | (with_reducible refine below_grow ?_ ?_ _ _) | omega | (simp; done) | (simp; omega))); done) | (with_reducible apply SlA.at; (with_reducible assumption); (repeat' (first | (with_reducible exact Below.refl _ _) | (with_reducible refine Below.alloc ?_ ?_ _) | (with_reducible refine Below.drew ?_) | (with_reducible refine below_drewN ?_ _) | (with_reducible refine Below.setCell ?_ ?_ _) | (with_reducible refine below_via ‹_› ?_ ?_) | (with_reducible refine below_grow ?_ ?_ _ _) | omega | (simp; done) | (simp; omega))); done)) hl1 k1).mono ?_
    rintro e w1 ⟨s, a, b, c, rfl, hs, hsz, hb1⟩
    have hz1 := hb1.size
    go_wp2_with fail
    refine (c_R8Works _ bs0 _ (by first | (with_reducible assumption) | (with_reducible apply SlO.at; (with_reducible assumption); (repeat' (first | (with_reducible exact Below.refl _ _) | (with_reducible refine Below.alloc ?_ ?_ _) | (with_reducible refine Below.drew ?_) | (with_reducible refine below_drewN ?_ _) | (with_reducible refine Below.setCell ?_ ?_ _) | (with_reducible refine below_via ‹_› ?_ ?_) | (with_reducible refine below_grow ?_ ?_ _ _) | omega | (simp; done) | (simp; omega))); done) | (with_reducible apply SlA.at; (with_reducible assumption); (repeat' (first | (with_reducible exact Below.refl _ _) | (with_reducible refine Below.alloc ?_ ?_ _) | (with_reducible refine Below.drew ?_) | (with_reducible refine below_drewN ?_ _) | (with_reducible refine Below.setCell ?_ ?_ _) | (with_reducible refine below_via ‹_› ?_ ?_) | (with_reducible refine below_grow ?_ ?_ _ _) | omega | (simp; done) | (simp; omega))); done)) hl0 k0).mono ?_
    rintro e w2 ⟨vw, ws, rfl, hb2, hS2, hwl, hws⟩
    obtain ⟨hW, hok⟩ := drawn_works hws hwl
    have HW := hid hW
    have HS := hid hs
    clear hws hW hs
    have A2 : SlA w2 0 7 encWork vw ws := hS2.1.mono (Nat.zero_le _)
    have P2 : Bk w2 w1.heap.size 25 [.string s, .int .i64 a, .int .i64 b, .int .i64 c] := (Bk.new w1 _ _).below hb2
    have hz2 := hb2.size
    simp at hz2
    have hB2 : Below w.heap.size w w2 := hb1.trans ((((Below.refl w1.heap.size w1).alloc (Nat.le_refl _) _).trans (hb2.mono (by simp))).mono hb1.size)
    clear hb1 hb2 hS2
    go_wp2_with fail
    have RP := routes_ok HS.out (x := 20000) (y := 20000) (by decide) HW.out hwl
    have hF5 : (fvL s a b c 20000 20000 ws 0 4000).length ≤ 1048576 := by
      rcases RP.cnt with ⟨e, -, -⟩ | ⟨e, -, -⟩
      · have := (RP.fst e).1; omega
      · have : fvL s a b c 20000 20000 ws 0 4000 = [] := by
          have h := e
          unfold fvC at h
          split at h
          · rename_i h2
            split at h
            · omega
            · rename_i h3
              rw [fvL, if_pos h2]
              cases hq : (fvA a b 20000 20000 ws 0 4000).ans with
              | none => rfl
              | some os => rw [hq] at h3; simp at h3
          · rename_i h2; rw [fvL, if_neg h2]
        rw [this]; simp
    have q0 := bk_since P2 (i := 0) rfl
    have q1 := bk_since P2 (i := 1) rfl
    have q2 := bk_since P2 (i := 2) rfl
    have q3 := bk_since P2 (i := 3) rfl
    go_region_held3 (fun w' => Since w2 w') ((refine since_of ?_; (repeat' (first | (with_reducible exact Below.refl _ _) | (with_reducible refine Below.alloc ?_ ?_ _) | (with_reducible refine Below.drew ?_) | (with_reducible refine below_drewN ?_ _) | (with_reducible refine Below.setCell ?_ ?_ _) | (with_reducible refine below_via ‹_› ?_ ?_) | (with_reducible refine below_grow ?_ ?_ _ _) | omega | (simp; done) | (simp; omega))))) (first | (go_at_call 19; refine (c_r8Base _).mono ?_; rintro e w3 ⟨rfl, hbw3⟩; have hzw3 := hbw3.size; (try simp at hzw3)) | (go_at_call 31; refine (c_impl_FirstVoyage s a b c 20000 20000 vw ws 0 4000 _ hsz (by first | (with_reducible assumption) | (with_reducible apply SlO.at; (with_reducible assumption); (repeat' (first | (with_reducible exact Below.refl _ _) | (with_reducible refine Below.alloc ?_ ?_ _) | (with_reducible refine Below.drew ?_) | (with_reducible refine below_drewN ?_ _) | (with_reducible refine Below.setCell ?_ ?_ _) | (with_reducible refine below_via ‹_› ?_ ?_) | (with_reducible refine below_grow ?_ ?_ _ _) | omega | (simp; done) | (simp; omega))); done) | (with_reducible apply SlA.at; (with_reducible assumption); (repeat' (first | (with_reducible exact Below.refl _ _) | (with_reducible refine Below.alloc ?_ ?_ _) | (with_reducible refine Below.drew ?_) | (with_reducible refine below_drewN ?_ _) | (with_reducible refine Below.setCell ?_ ?_ _) | (with_reducible refine below_via ‹_› ?_ ?_) | (with_reducible refine below_grow ?_ ?_ _ _) | omega | (simp; done) | (simp; omega))); done)) hok).mono ?_; rintro e w4 ⟨vF, rfl, hbw4, hF4⟩; have hzw4 := hbw4.size; (try simp at hzw4)) | fail)
    have hbw4 : Below w2.heap.size w2 w4 := by (repeat' (first | (with_reducible exact Below.refl _ _) | (with_reducible refine Below.alloc ?_ ?_ _) | (with_reducible refine Below.drew ?_) | (with_reducible refine below_drewN ?_ _) | (with_reducible refine Below.setCell ?_ ?_ _) | (with_reducible refine below_via ‹_› ?_ ?_) | (with_reducible refine below_grow ?_ ?_ _ _) | omega | (simp; done) | (simp; omega)))
    clear q0 q1 q2 q3 hbw3
    have F4 : SlA w4 0 1 encI vF (fvL s a b c 20000 20000 ws 0 4000) := hF4.1.mono (Nat.zero_le _)
    have P4 := P2.below hbw4
    have A4 := A2.at hbw4
    have hzz : w2.heap.size ≤ w4.heap.size := hbw4.size
    have hB4 : Below w.heap.size w w4 := hB2.trans (hbw4.mono (by have := hB2.size; omega))
    clear P2 A2 hB2 hbw4 
    clear hF4
    generalize fvL s a b c 20000 20000 ws 0 4000 = F at F4 RP hF5
    generalize fvC s a b c 20000 20000 ws 0 4000 = fc at RP
    go_wp2_with fail
    have q0 := bk_since P4 (i := 0) rfl
    have q1 := bk_since P4 (i := 1) rfl
    have q2 := bk_since P4 (i := 2) rfl
    have q3 := bk_since P4 (i := 3) rfl
    go_region_held3 (fun w' => Since w4 w') ((refine since_of ?_; (repeat' (first | (with_reducible exact Below.refl _ _) | (with_reducible refine Below.alloc ?_ ?_ _) | (with_reducible refine Below.drew ?_) | (with_reducible refine below_drewN ?_ _) | (with_reducible refine Below.setCell ?_ ?_ _) | (with_reducible refine below_via ‹_› ?_ ?_) | (with_reducible refine below_grow ?_ ?_ _ _) | omega | (simp; done) | (simp; omega))))) (first | (go_at_call 19; refine (c_r8Base _).mono ?_; rintro e w5 ⟨rfl, hbw5⟩; have hzw5 := hbw5.size; (try simp at hzw5)) | (go_at_call 32; refine (r_best RP HS.out hsz HW.out (by first | (with_reducible assumption) | (with_reducible apply SlO.at; (with_reducible assumption); (repeat' (first | (with_reducible exact Below.refl _ _) | (with_reducible refine Below.alloc ?_ ?_ _) | (with_reducible refine Below.drew ?_) | (with_reducible refine below_drewN ?_ _) | (with_reducible refine Below.setCell ?_ ?_ _) | (with_reducible refine below_via ‹_› ?_ ?_) | (with_reducible refine below_grow ?_ ?_ _ _) | omega | (simp; done) | (simp; omega))); done) | (with_reducible apply SlA.at; (with_reducible assumption); (repeat' (first | (with_reducible exact Below.refl _ _) | (with_reducible refine Below.alloc ?_ ?_ _) | (with_reducible refine Below.drew ?_) | (with_reducible refine below_drewN ?_ _) | (with_reducible refine Below.setCell ?_ ?_ _) | (with_reducible refine below_via ‹_› ?_ ?_) | (with_reducible refine below_grow ?_ ?_ _ _) | omega | (simp; done) | (simp; omega))); done)) hok).mono ?_; rintro e w6 ⟨vB, rfl, hbw6, hO6⟩; have hzw6 := hbw6.size; (try simp at hzw6)) | fail)
    have hbw6 : Below w4.heap.size w4 w6 := by (repeat' (first | (with_reducible exact Below.refl _ _) | (with_reducible refine Below.alloc ?_ ?_ _) | (with_reducible refine Below.drew ?_) | (with_reducible refine below_drewN ?_ _) | (with_reducible refine Below.setCell ?_ ?_ _) | (with_reducible refine below_via ‹_› ?_ ?_) | (with_reducible refine below_grow ?_ ?_ _ _) | omega | (simp; done) | (simp; omega)))
    clear q0 q1 q2 q3 hbw5
    have B6 : SlA w6 0 1 encI vB (bvL s a b c 20000 20000 ws 0 4000) := hO6.1.mono (Nat.zero_le _)
    have P6 := P4.below hbw6
    have A6 := A4.at hbw6
    have F6 := F4.at hbw6
    have hzz : w4.heap.size ≤ w6.heap.size := hbw6.size
    have hB6 : Below w.heap.size w w6 := hB4.trans (hbw6.mono (by have := hB4.size; omega))
    clear P4 A4 hB4 hbw6 F4
    clear hO6
    generalize bvL s a b c 20000 20000 ws 0 4000 = B at B6 RP
    go_wp2_with fail
    have q0 := bk_since P6 (i := 0) rfl
    have q1 := bk_since P6 (i := 1) rfl
    have q2 := bk_since P6 (i := 2) rfl
    have q3 := bk_since P6 (i := 3) rfl
    go_region_held3 (fun w' => Since w6 w') ((refine since_of ?_; (repeat' (first | (with_reducible exact Below.refl _ _) | (with_reducible refine Below.alloc ?_ ?_ _) | (with_reducible refine Below.drew ?_) | (with_reducible refine below_drewN ?_ _) | (with_reducible refine Below.setCell ?_ ?_ _) | (with_reducible refine below_via ‹_› ?_ ?_) | (with_reducible refine below_grow ?_ ?_ _ _) | omega | (simp; done) | (simp; omega))))) (first | (go_at_call 19; refine (c_r8Base _).mono ?_; rintro e w7 ⟨rfl, hbw7⟩; have hzw7 := hbw7.size; (try simp at hzw7)) | (go_at_call 33; refine (r_count RP hsz (by first | (with_reducible assumption) | (with_reducible apply SlO.at; (with_reducible assumption); (repeat' (first | (with_reducible exact Below.refl _ _) | (with_reducible refine Below.alloc ?_ ?_ _) | (with_reducible refine Below.drew ?_) | (with_reducible refine below_drewN ?_ _) | (with_reducible refine Below.setCell ?_ ?_ _) | (with_reducible refine below_via ‹_› ?_ ?_) | (with_reducible refine below_grow ?_ ?_ _ _) | omega | (simp; done) | (simp; omega))); done) | (with_reducible apply SlA.at; (with_reducible assumption); (repeat' (first | (with_reducible exact Below.refl _ _) | (with_reducible refine Below.alloc ?_ ?_ _) | (with_reducible refine Below.drew ?_) | (with_reducible refine below_drewN ?_ _) | (with_reducible refine Below.setCell ?_ ?_ _) | (with_reducible refine below_via ‹_› ?_ ?_) | (with_reducible refine below_grow ?_ ?_ _ _) | omega | (simp; done) | (simp; omega))); done)) hok).mono ?_; rintro e w8 ⟨rfl, hbw8⟩; have hzw8 := hbw8.size; (try simp at hzw8)) | fail)
    have hbw8 : Below w6.heap.size w6 w8 := by (repeat' (first | (with_reducible exact Below.refl _ _) | (with_reducible refine Below.alloc ?_ ?_ _) | (with_reducible refine Below.drew ?_) | (with_reducible refine below_drewN ?_ _) | (with_reducible refine Below.setCell ?_ ?_ _) | (with_reducible refine below_via ‹_› ?_ ?_) | (with_reducible refine below_grow ?_ ?_ _ _) | omega | (simp; done) | (simp; omega)))
    clear q0 q1 q2 q3 hbw7
    have P8 := P6.below hbw8
    have A8 := A6.at hbw8
    have F8 := F6.at hbw8
    have B8 := B6.at hbw8
    have hzz : w6.heap.size ≤ w8.heap.size := hbw8.size
    have hB8 : Below w.heap.size w w8 := hB6.trans (hbw8.mono (by have := hB6.size; omega))
    clear P6 A6 hB6 hbw8 F6 B6
    generalize cvV s a b c 20000 20000 ws 0 4000 = N at RP
    go_wp2_with fail
    have q0 := bk_since P8 (i := 0) rfl
    have q1 := bk_since P8 (i := 1) rfl
    have q2 := bk_since P8 (i := 2) rfl
    have q3 := bk_since P8 (i := 3) rfl
    go_region_held3 (fun w' => Since w8 w') ((refine since_of ?_; (repeat' (first | (with_reducible exact Below.refl _ _) | (with_reducible refine Below.alloc ?_ ?_ _) | (with_reducible refine Below.drew ?_) | (with_reducible refine below_drewN ?_ _) | (with_reducible refine Below.setCell ?_ ?_ _) | (with_reducible refine below_via ‹_› ?_ ?_) | (with_reducible refine below_grow ?_ ?_ _ _) | omega | (simp; done) | (simp; omega))))) (first | (go_at_call 19; refine (c_r8Base _).mono ?_; rintro e w9 ⟨rfl, hbw9⟩; have hzw9 := hbw9.size; (try simp at hzw9)) | (go_at_call 34; refine (r_most RP hsz (by first | (with_reducible assumption) | (with_reducible apply SlO.at; (with_reducible assumption); (repeat' (first | (with_reducible exact Below.refl _ _) | (with_reducible refine Below.alloc ?_ ?_ _) | (with_reducible refine Below.drew ?_) | (with_reducible refine below_drewN ?_ _) | (with_reducible refine Below.setCell ?_ ?_ _) | (with_reducible refine below_via ‹_› ?_ ?_) | (with_reducible refine below_grow ?_ ?_ _ _) | omega | (simp; done) | (simp; omega))); done) | (with_reducible apply SlA.at; (with_reducible assumption); (repeat' (first | (with_reducible exact Below.refl _ _) | (with_reducible refine Below.alloc ?_ ?_ _) | (with_reducible refine Below.drew ?_) | (with_reducible refine below_drewN ?_ _) | (with_reducible refine Below.setCell ?_ ?_ _) | (with_reducible refine below_via ‹_› ?_ ?_) | (with_reducible refine below_grow ?_ ?_ _ _) | omega | (simp; done) | (simp; omega))); done)) hok).mono ?_; rintro e w10 ⟨vM, rfl, hbw10, hO10⟩; have hzw10 := hbw10.size; (try simp at hzw10)) | fail)
    have hbw10 : Below w8.heap.size w8 w10 := by (repeat' (first | (with_reducible exact Below.refl _ _) | (with_reducible refine Below.alloc ?_ ?_ _) | (with_reducible refine Below.drew ?_) | (with_reducible refine below_drewN ?_ _) | (with_reducible refine Below.setCell ?_ ?_ _) | (with_reducible refine below_via ‹_› ?_ ?_) | (with_reducible refine below_grow ?_ ?_ _ _) | omega | (simp; done) | (simp; omega)))
    clear q0 q1 q2 q3 hbw9
    have M10 : SlA w10 0 1 encI vM (mwL s a b c 20000 20000 ws 0 4000) := hO10.1.mono (Nat.zero_le _)
    have P10 := P8.below hbw10
    have A10 := A8.at hbw10
    have F10 := F8.at hbw10
    have B10 := B8.at hbw10
    have hzz : w8.heap.size ≤ w10.heap.size := hbw10.size
    have hB10 : Below w.heap.size w w10 := hB8.trans (hbw10.mono (by have := hB8.size; omega))
    clear P8 A8 hB8 hbw10 F8 B8
    clear hO10
    generalize mwL s a b c 20000 20000 ws 0 4000 = M at M10 RP
    go_wp2_with fail
    have q0 := bk_since P10 (i := 0) rfl
    have q1 := bk_since P10 (i := 1) rfl
    have q2 := bk_since P10 (i := 2) rfl
    have q3 := bk_since P10 (i := 3) rfl
    go_region_held3 (fun w' => Since w10 w') ((refine since_of ?_; (repeat' (first | (with_reducible exact Below.refl _ _) | (with_reducible refine Below.alloc ?_ ?_ _) | (with_reducible refine Below.drew ?_) | (with_reducible refine below_drewN ?_ _) | (with_reducible refine Below.setCell ?_ ?_ _) | (with_reducible refine below_via ‹_› ?_ ?_) | (with_reducible refine below_grow ?_ ?_ _ _) | omega | (simp; done) | (simp; omega))))) (first | (go_at_call 19; refine (c_r8Base _).mono ?_; rintro e w11 ⟨rfl, hbw11⟩; have hzw11 := hbw11.size; (try simp at hzw11)) | (go_at_call 35; refine (r_greedy RP hsz (by first | (with_reducible assumption) | (with_reducible apply SlO.at; (with_reducible assumption); (repeat' (first | (with_reducible exact Below.refl _ _) | (with_reducible refine Below.alloc ?_ ?_ _) | (with_reducible refine Below.drew ?_) | (with_reducible refine below_drewN ?_ _) | (with_reducible refine Below.setCell ?_ ?_ _) | (with_reducible refine below_via ‹_› ?_ ?_) | (with_reducible refine below_grow ?_ ?_ _ _) | omega | (simp; done) | (simp; omega))); done) | (with_reducible apply SlA.at; (with_reducible assumption); (repeat' (first | (with_reducible exact Below.refl _ _) | (with_reducible refine Below.alloc ?_ ?_ _) | (with_reducible refine Below.drew ?_) | (with_reducible refine below_drewN ?_ _) | (with_reducible refine Below.setCell ?_ ?_ _) | (with_reducible refine below_via ‹_› ?_ ?_) | (with_reducible refine below_grow ?_ ?_ _ _) | omega | (simp; done) | (simp; omega))); done)) hok).mono ?_; rintro e w12 ⟨vG, rfl, hbw12, hO12⟩; have hzw12 := hbw12.size; (try simp at hzw12)) | fail)
    have hbw12 : Below w10.heap.size w10 w12 := by (repeat' (first | (with_reducible exact Below.refl _ _) | (with_reducible refine Below.alloc ?_ ?_ _) | (with_reducible refine Below.drew ?_) | (with_reducible refine below_drewN ?_ _) | (with_reducible refine Below.setCell ?_ ?_ _) | (with_reducible refine below_via ‹_› ?_ ?_) | (with_reducible refine below_grow ?_ ?_ _ _) | omega | (simp; done) | (simp; omega)))
    clear q0 q1 q2 q3 hbw11
    have G12 : SlA w12 0 1 encI vG (grL s a b c 20000 20000 ws 0) := hO12.1.mono (Nat.zero_le _)
    have P12 := P10.below hbw12
    have A12 := A10.at hbw12
    have F12 := F10.at hbw12
    have B12 := B10.at hbw12
    have M12 := M10.at hbw12
    have hzz : w10.heap.size ≤ w12.heap.size := hbw12.size
    have hB12 : Below w.heap.size w w12 := hB10.trans (hbw12.mono (by have := hB10.size; omega))
    clear P10 A10 hB10 hbw12 F10 B10 M10
    clear hO12
    generalize grL s a b c 20000 20000 ws 0 = G at G12 RP
    have hr := RP.rm
    have hgm := RP.gm
    have hMl : M.length ≤ 5 := by omega
    have hGl : G.length ≤ 5 := by omega
    have hn1 := RP.n1
    have hcn := RP.cnt
    have vm := hid RP.vm
    have vg := hid RP.vg
    have hst := hid RP.fst
    obtain ⟨adM, cpM, rfl⟩ := M12.form
    obtain ⟨adG, cpG, rfl⟩ := G12.form
    obtain ⟨adw, cpw, rfl⟩ := A12.form
    obtain ⟨adF, cpF, rfl⟩ := F12.form
    obtain ⟨adB, cpB, rfl⟩ := B12.form
    have hr1 := hid hr.1
    have hr2 := hid hr.2
    clear hr RP
    rcases hcn with ⟨rfl, hN0, hMf⟩ | ⟨rfl, rfl, hMf⟩
    rotate_left
    · go_wp2_with fail
      have q0 := bk_since P12 (i := 0) rfl
      have q1 := bk_since P12 (i := 1) rfl
      have q2 := bk_since P12 (i := 2) rfl
      have q3 := bk_since P12 (i := 3) rfl
      go_region_held3 (fun w' => Since w12 w') ((refine since_of ?_; (repeat' (first | (with_reducible exact Below.refl _ _) | (with_reducible refine Below.alloc ?_ ?_ _) | (with_reducible refine Below.drew ?_) | (with_reducible refine below_drewN ?_ _) | (with_reducible refine Below.setCell ?_ ?_ _) | (with_reducible refine below_via ‹_› ?_ ?_) | (with_reducible refine below_grow ?_ ?_ _ _) | omega | (simp; done) | (simp; omega))))) (first | (go_at_call 19; refine (c_r8Base _).mono ?_; rintro e w13 ⟨rfl, hbw13⟩; have hzw13 := hbw13.size; (try simp at hzw13)) | (go_at_call 36; refine (r_vo vm.out hsz (by first | (with_reducible assumption) | (with_reducible apply SlO.at; (with_reducible assumption); (repeat' (first | (with_reducible exact Below.refl _ _) | (with_reducible refine Below.alloc ?_ ?_ _) | (with_reducible refine Below.drew ?_) | (with_reducible refine below_drewN ?_ _) | (with_reducible refine Below.setCell ?_ ?_ _) | (with_reducible refine below_via ‹_› ?_ ?_) | (with_reducible refine below_grow ?_ ?_ _ _) | omega | (simp; done) | (simp; omega))); done) | (with_reducible apply SlA.at; (with_reducible assumption); (repeat' (first | (with_reducible exact Below.refl _ _) | (with_reducible refine Below.alloc ?_ ?_ _) | (with_reducible refine Below.drew ?_) | (with_reducible refine below_drewN ?_ _) | (with_reducible refine Below.setCell ?_ ?_ _) | (with_reducible refine below_via ‹_› ?_ ?_) | (with_reducible refine below_grow ?_ ?_ _ _) | omega | (simp; done) | (simp; omega))); done)) hok (by first | (with_reducible assumption) | (with_reducible apply SlO.at; (with_reducible assumption); (repeat' (first | (with_reducible exact Below.refl _ _) | (with_reducible refine Below.alloc ?_ ?_ _) | (with_reducible refine Below.drew ?_) | (with_reducible refine below_drewN ?_ _) | (with_reducible refine Below.setCell ?_ ?_ _) | (with_reducible refine below_via ‹_› ?_ ?_) | (with_reducible refine below_grow ?_ ?_ _ _) | omega | (simp; done) | (simp; omega))); done) | (with_reducible apply SlA.at; (with_reducible assumption); (repeat' (first | (with_reducible exact Below.refl _ _) | (with_reducible refine Below.alloc ?_ ?_ _) | (with_reducible refine Below.drew ?_) | (with_reducible refine below_drewN ?_ _) | (with_reducible refine Below.setCell ?_ ?_ _) | (with_reducible refine below_via ‹_› ?_ ?_) | (with_reducible refine below_grow ?_ ?_ _ _) | omega | (simp; done) | (simp; omega))); done)) (by omega)).mono ?_; rintro e w14 ⟨xo1, rfl, hbw14⟩; have hzw14 := hbw14.size; (try simp at hzw14)) | fail)
      have hbw14 : Below w12.heap.size w12 w14 := by (repeat' (first | (with_reducible exact Below.refl _ _) | (with_reducible refine Below.alloc ?_ ?_ _) | (with_reducible refine Below.drew ?_) | (with_reducible refine below_drewN ?_ _) | (with_reducible refine Below.setCell ?_ ?_ _) | (with_reducible refine below_via ‹_› ?_ ?_) | (with_reducible refine below_grow ?_ ?_ _ _) | omega | (simp; done) | (simp; omega)))
      clear q0 q1 q2 q3 hbw13
      have P14 := P12.below hbw14
      have A14 := A12.at hbw14
      have F14 := F12.at hbw14
      have B14 := B12.at hbw14
      have M14 := M12.at hbw14
      have G14 := G12.at hbw14
      have hzz : w12.heap.size ≤ w14.heap.size := hbw14.size
      have hB14 : Below w.heap.size w w14 := hB12.trans (hbw14.mono (by have := hB12.size; omega))
      clear P12 A12 hB12 hbw14 F12 B12 M12 G12
      go_wp2_with fail
      have q0 := bk_since P14 (i := 0) rfl
      have q1 := bk_since P14 (i := 1) rfl
      have q2 := bk_since P14 (i := 2) rfl
      have q3 := bk_since P14 (i := 3) rfl
      go_region_held3 (fun w' => Since w14 w') ((refine since_of ?_; (repeat' (first | (with_reducible exact Below.refl _ _) | (with_reducible refine Below.alloc ?_ ?_ _) | (with_reducible refine Below.drew ?_) | (with_reducible refine below_drewN ?_ _) | (with_reducible refine Below.setCell ?_ ?_ _) | (with_reducible refine below_via ‹_› ?_ ?_) | (with_reducible refine below_grow ?_ ?_ _ _) | omega | (simp; done) | (simp; omega))))) (first | (go_at_call 19; refine (c_r8Base _).mono ?_; rintro e w15 ⟨rfl, hbw15⟩; have hzw15 := hbw15.size; (try simp at hzw15)) | (go_at_call 36; refine (r_vo vg.out hsz (by first | (with_reducible assumption) | (with_reducible apply SlO.at; (with_reducible assumption); (repeat' (first | (with_reducible exact Below.refl _ _) | (with_reducible refine Below.alloc ?_ ?_ _) | (with_reducible refine Below.drew ?_) | (with_reducible refine below_drewN ?_ _) | (with_reducible refine Below.setCell ?_ ?_ _) | (with_reducible refine below_via ‹_› ?_ ?_) | (with_reducible refine below_grow ?_ ?_ _ _) | omega | (simp; done) | (simp; omega))); done) | (with_reducible apply SlA.at; (with_reducible assumption); (repeat' (first | (with_reducible exact Below.refl _ _) | (with_reducible refine Below.alloc ?_ ?_ _) | (with_reducible refine Below.drew ?_) | (with_reducible refine below_drewN ?_ _) | (with_reducible refine Below.setCell ?_ ?_ _) | (with_reducible refine below_via ‹_› ?_ ?_) | (with_reducible refine below_grow ?_ ?_ _ _) | omega | (simp; done) | (simp; omega))); done)) hok (by first | (with_reducible assumption) | (with_reducible apply SlO.at; (with_reducible assumption); (repeat' (first | (with_reducible exact Below.refl _ _) | (with_reducible refine Below.alloc ?_ ?_ _) | (with_reducible refine Below.drew ?_) | (with_reducible refine below_drewN ?_ _) | (with_reducible refine Below.setCell ?_ ?_ _) | (with_reducible refine below_via ‹_› ?_ ?_) | (with_reducible refine below_grow ?_ ?_ _ _) | omega | (simp; done) | (simp; omega))); done) | (with_reducible apply SlA.at; (with_reducible assumption); (repeat' (first | (with_reducible exact Below.refl _ _) | (with_reducible refine Below.alloc ?_ ?_ _) | (with_reducible refine Below.drew ?_) | (with_reducible refine below_drewN ?_ _) | (with_reducible refine Below.setCell ?_ ?_ _) | (with_reducible refine below_via ‹_› ?_ ?_) | (with_reducible refine below_grow ?_ ?_ _ _) | omega | (simp; done) | (simp; omega))); done)) (by omega)).mono ?_; rintro e w16 ⟨xo2, rfl, hbw16⟩; have hzw16 := hbw16.size; (try simp at hzw16)) | fail)
      have hbw16 : Below w14.heap.size w14 w16 := by (repeat' (first | (with_reducible exact Below.refl _ _) | (with_reducible refine Below.alloc ?_ ?_ _) | (with_reducible refine Below.drew ?_) | (with_reducible refine below_drewN ?_ _) | (with_reducible refine Below.setCell ?_ ?_ _) | (with_reducible refine below_via ‹_› ?_ ?_) | (with_reducible refine below_grow ?_ ?_ _ _) | omega | (simp; done) | (simp; omega)))
      clear q0 q1 q2 q3 hbw15
      have P16 := P14.below hbw16
      have A16 := A14.at hbw16
      have F16 := F14.at hbw16
      have B16 := B14.at hbw16
      have M16 := M14.at hbw16
      have G16 := G14.at hbw16
      have hzz : w14.heap.size ≤ w16.heap.size := hbw16.size
      have hB16 : Below w.heap.size w w16 := hB14.trans (hbw16.mono (by have := hB14.size; omega))
      clear P14 A14 hB14 hbw16 F14 B14 M14 G14
      go_wp2_with fail
      refine (c_impl_RestOf _ _ ws M _ (by first | (with_reducible assumption) | (with_reducible apply SlO.at; (with_reducible assumption); (repeat' (first | (with_reducible exact Below.refl _ _) | (with_reducible refine Below.alloc ?_ ?_ _) | (with_reducible refine Below.drew ?_) | (with_reducible refine below_drewN ?_ _) | (with_reducible refine Below.setCell ?_ ?_ _) | (with_reducible refine below_via ‹_› ?_ ?_) | (with_reducible refine below_grow ?_ ?_ _ _) | omega | (simp; done) | (simp; omega))); done) | (with_reducible apply SlA.at; (with_reducible assumption); (repeat' (first | (with_reducible exact Below.refl _ _) | (with_reducible refine Below.alloc ?_ ?_ _) | (with_reducible refine Below.drew ?_) | (with_reducible refine below_drewN ?_ _) | (with_reducible refine Below.setCell ?_ ?_ _) | (with_reducible refine below_via ‹_› ?_ ?_) | (with_reducible refine below_grow ?_ ?_ _ _) | omega | (simp; done) | (simp; omega))); done)) hok (by first | (with_reducible assumption) | (with_reducible apply SlO.at; (with_reducible assumption); (repeat' (first | (with_reducible exact Below.refl _ _) | (with_reducible refine Below.alloc ?_ ?_ _) | (with_reducible refine Below.drew ?_) | (with_reducible refine below_drewN ?_ _) | (with_reducible refine Below.setCell ?_ ?_ _) | (with_reducible refine below_via ‹_› ?_ ?_) | (with_reducible refine below_grow ?_ ?_ _ _) | omega | (simp; done) | (simp; omega))); done) | (with_reducible apply SlA.at; (with_reducible assumption); (repeat' (first | (with_reducible exact Below.refl _ _) | (with_reducible refine Below.alloc ?_ ?_ _) | (with_reducible refine Below.drew ?_) | (with_reducible refine below_drewN ?_ _) | (with_reducible refine Below.setCell ?_ ?_ _) | (with_reducible refine below_via ‹_› ?_ ?_) | (with_reducible refine below_grow ?_ ?_ _ _) | omega | (simp; done) | (simp; omega))); done)) (by omega)).mono ?_
      rintro e w18 ⟨vR, rfl, hbw18, hR18⟩
      rw [hr1.out]
      have P18 := P16.below hbw18
      have A18 := A16.at hbw18
      have F18 := F16.at hbw18
      have B18 := B16.at hbw18
      have M18 := M16.at hbw18
      have G18 := G16.at hbw18
      have hzz : w16.heap.size ≤ w18.heap.size := hbw18.size
      have hB18 : Below w.heap.size w w18 := hB16.trans (hbw18.mono (by have := hB16.size; omega))
      clear P16 A16 hB16 hbw18 F16 B16 M16 G16
      obtain ⟨adR, cpR, rfl⟩ := hR18.1.form
      have hrl := hr2.out
      clear hR18
      generalize (resV ws M).length = R at hrl ⊢
      have hRb : R ≤ 5 := by omega
      have hg1 : decide (M.length < G.length) = false := by simpa using hgm
      have hg2 : decide ((M.length : Int) < (G.length : Int)) = false := by simpa using hgm
      have hg3 : (((R : Int) + (M.length : Int)) != (ws.length : Int)) = false := by simp; omega
      have hg4 : ((M.length : Int) == (ws.length : Int)) = false := by rw [beq_eq_false_iff_ne]; omega
      have HR := hid hrl
      clear hrl hMf
      go_wp2_with fail
      go_ret
      exact ⟨rfl, hB18⟩
    · have HMf := hid hMf
      have hMq : M.length ≤ ws.length := by omega
      clear hMf
      go_wp2_with fail
      have q0 := bk_since P12 (i := 0) rfl
      have q1 := bk_since P12 (i := 1) rfl
      have q2 := bk_since P12 (i := 2) rfl
      have q3 := bk_since P12 (i := 3) rfl
      go_region_held3 (fun w' => Since w12 w') ((refine since_of ?_; (repeat' (first | (with_reducible exact Below.refl _ _) | (with_reducible refine Below.alloc ?_ ?_ _) | (with_reducible refine Below.drew ?_) | (with_reducible refine below_drewN ?_ _) | (with_reducible refine Below.setCell ?_ ?_ _) | (with_reducible refine below_via ‹_› ?_ ?_) | (with_reducible refine below_grow ?_ ?_ _ _) | omega | (simp; done) | (simp; omega))))) (first | (go_at_call 19; refine (c_r8Base _).mono ?_; rintro e w13 ⟨rfl, hbw13⟩; have hzw13 := hbw13.size; (try simp at hzw13)) | (go_at_call 36; refine (r_vo vm.out hsz (by first | (with_reducible assumption) | (with_reducible apply SlO.at; (with_reducible assumption); (repeat' (first | (with_reducible exact Below.refl _ _) | (with_reducible refine Below.alloc ?_ ?_ _) | (with_reducible refine Below.drew ?_) | (with_reducible refine below_drewN ?_ _) | (with_reducible refine Below.setCell ?_ ?_ _) | (with_reducible refine below_via ‹_› ?_ ?_) | (with_reducible refine below_grow ?_ ?_ _ _) | omega | (simp; done) | (simp; omega))); done) | (with_reducible apply SlA.at; (with_reducible assumption); (repeat' (first | (with_reducible exact Below.refl _ _) | (with_reducible refine Below.alloc ?_ ?_ _) | (with_reducible refine Below.drew ?_) | (with_reducible refine below_drewN ?_ _) | (with_reducible refine Below.setCell ?_ ?_ _) | (with_reducible refine below_via ‹_› ?_ ?_) | (with_reducible refine below_grow ?_ ?_ _ _) | omega | (simp; done) | (simp; omega))); done)) hok (by first | (with_reducible assumption) | (with_reducible apply SlO.at; (with_reducible assumption); (repeat' (first | (with_reducible exact Below.refl _ _) | (with_reducible refine Below.alloc ?_ ?_ _) | (with_reducible refine Below.drew ?_) | (with_reducible refine below_drewN ?_ _) | (with_reducible refine Below.setCell ?_ ?_ _) | (with_reducible refine below_via ‹_› ?_ ?_) | (with_reducible refine below_grow ?_ ?_ _ _) | omega | (simp; done) | (simp; omega))); done) | (with_reducible apply SlA.at; (with_reducible assumption); (repeat' (first | (with_reducible exact Below.refl _ _) | (with_reducible refine Below.alloc ?_ ?_ _) | (with_reducible refine Below.drew ?_) | (with_reducible refine below_drewN ?_ _) | (with_reducible refine Below.setCell ?_ ?_ _) | (with_reducible refine below_via ‹_› ?_ ?_) | (with_reducible refine below_grow ?_ ?_ _ _) | omega | (simp; done) | (simp; omega))); done)) (by omega)).mono ?_; rintro e w14 ⟨xo1, rfl, hbw14⟩; have hzw14 := hbw14.size; (try simp at hzw14)) | fail)
      have hbw14 : Below w12.heap.size w12 w14 := by (repeat' (first | (with_reducible exact Below.refl _ _) | (with_reducible refine Below.alloc ?_ ?_ _) | (with_reducible refine Below.drew ?_) | (with_reducible refine below_drewN ?_ _) | (with_reducible refine Below.setCell ?_ ?_ _) | (with_reducible refine below_via ‹_› ?_ ?_) | (with_reducible refine below_grow ?_ ?_ _ _) | omega | (simp; done) | (simp; omega)))
      clear q0 q1 q2 q3 hbw13
      have P14 := P12.below hbw14
      have A14 := A12.at hbw14
      have F14 := F12.at hbw14
      have B14 := B12.at hbw14
      have M14 := M12.at hbw14
      have G14 := G12.at hbw14
      have hzz : w12.heap.size ≤ w14.heap.size := hbw14.size
      have hB14 : Below w.heap.size w w14 := hB12.trans (hbw14.mono (by have := hB12.size; omega))
      clear P12 A12 hB12 hbw14 F12 B12 M12 G12
      go_wp2_with fail
      have q0 := bk_since P14 (i := 0) rfl
      have q1 := bk_since P14 (i := 1) rfl
      have q2 := bk_since P14 (i := 2) rfl
      have q3 := bk_since P14 (i := 3) rfl
      go_region_held3 (fun w' => Since w14 w') ((refine since_of ?_; (repeat' (first | (with_reducible exact Below.refl _ _) | (with_reducible refine Below.alloc ?_ ?_ _) | (with_reducible refine Below.drew ?_) | (with_reducible refine below_drewN ?_ _) | (with_reducible refine Below.setCell ?_ ?_ _) | (with_reducible refine below_via ‹_› ?_ ?_) | (with_reducible refine below_grow ?_ ?_ _ _) | omega | (simp; done) | (simp; omega))))) (first | (go_at_call 19; refine (c_r8Base _).mono ?_; rintro e w15 ⟨rfl, hbw15⟩; have hzw15 := hbw15.size; (try simp at hzw15)) | (go_at_call 36; refine (r_vo vg.out hsz (by first | (with_reducible assumption) | (with_reducible apply SlO.at; (with_reducible assumption); (repeat' (first | (with_reducible exact Below.refl _ _) | (with_reducible refine Below.alloc ?_ ?_ _) | (with_reducible refine Below.drew ?_) | (with_reducible refine below_drewN ?_ _) | (with_reducible refine Below.setCell ?_ ?_ _) | (with_reducible refine below_via ‹_› ?_ ?_) | (with_reducible refine below_grow ?_ ?_ _ _) | omega | (simp; done) | (simp; omega))); done) | (with_reducible apply SlA.at; (with_reducible assumption); (repeat' (first | (with_reducible exact Below.refl _ _) | (with_reducible refine Below.alloc ?_ ?_ _) | (with_reducible refine Below.drew ?_) | (with_reducible refine below_drewN ?_ _) | (with_reducible refine Below.setCell ?_ ?_ _) | (with_reducible refine below_via ‹_› ?_ ?_) | (with_reducible refine below_grow ?_ ?_ _ _) | omega | (simp; done) | (simp; omega))); done)) hok (by first | (with_reducible assumption) | (with_reducible apply SlO.at; (with_reducible assumption); (repeat' (first | (with_reducible exact Below.refl _ _) | (with_reducible refine Below.alloc ?_ ?_ _) | (with_reducible refine Below.drew ?_) | (with_reducible refine below_drewN ?_ _) | (with_reducible refine Below.setCell ?_ ?_ _) | (with_reducible refine below_via ‹_› ?_ ?_) | (with_reducible refine below_grow ?_ ?_ _ _) | omega | (simp; done) | (simp; omega))); done) | (with_reducible apply SlA.at; (with_reducible assumption); (repeat' (first | (with_reducible exact Below.refl _ _) | (with_reducible refine Below.alloc ?_ ?_ _) | (with_reducible refine Below.drew ?_) | (with_reducible refine below_drewN ?_ _) | (with_reducible refine Below.setCell ?_ ?_ _) | (with_reducible refine below_via ‹_› ?_ ?_) | (with_reducible refine below_grow ?_ ?_ _ _) | omega | (simp; done) | (simp; omega))); done)) (by omega)).mono ?_; rintro e w16 ⟨xo2, rfl, hbw16⟩; have hzw16 := hbw16.size; (try simp at hzw16)) | fail)
      have hbw16 : Below w14.heap.size w14 w16 := by (repeat' (first | (with_reducible exact Below.refl _ _) | (with_reducible refine Below.alloc ?_ ?_ _) | (with_reducible refine Below.drew ?_) | (with_reducible refine below_drewN ?_ _) | (with_reducible refine Below.setCell ?_ ?_ _) | (with_reducible refine below_via ‹_› ?_ ?_) | (with_reducible refine below_grow ?_ ?_ _ _) | omega | (simp; done) | (simp; omega)))
      clear q0 q1 q2 q3 hbw15
      have P16 := P14.below hbw16
      have A16 := A14.at hbw16
      have F16 := F14.at hbw16
      have B16 := B14.at hbw16
      have M16 := M14.at hbw16
      have G16 := G14.at hbw16
      have hzz : w14.heap.size ≤ w16.heap.size := hbw16.size
      have hB16 : Below w.heap.size w w16 := hB14.trans (hbw16.mono (by have := hB14.size; omega))
      clear P14 A14 hB14 hbw16 F14 B14 M14 G14
      go_wp2_with fail
      refine (c_impl_RestOf _ _ ws M _ (by first | (with_reducible assumption) | (with_reducible apply SlO.at; (with_reducible assumption); (repeat' (first | (with_reducible exact Below.refl _ _) | (with_reducible refine Below.alloc ?_ ?_ _) | (with_reducible refine Below.drew ?_) | (with_reducible refine below_drewN ?_ _) | (with_reducible refine Below.setCell ?_ ?_ _) | (with_reducible refine below_via ‹_› ?_ ?_) | (with_reducible refine below_grow ?_ ?_ _ _) | omega | (simp; done) | (simp; omega))); done) | (with_reducible apply SlA.at; (with_reducible assumption); (repeat' (first | (with_reducible exact Below.refl _ _) | (with_reducible refine Below.alloc ?_ ?_ _) | (with_reducible refine Below.drew ?_) | (with_reducible refine below_drewN ?_ _) | (with_reducible refine Below.setCell ?_ ?_ _) | (with_reducible refine below_via ‹_› ?_ ?_) | (with_reducible refine below_grow ?_ ?_ _ _) | omega | (simp; done) | (simp; omega))); done)) hok (by first | (with_reducible assumption) | (with_reducible apply SlO.at; (with_reducible assumption); (repeat' (first | (with_reducible exact Below.refl _ _) | (with_reducible refine Below.alloc ?_ ?_ _) | (with_reducible refine Below.drew ?_) | (with_reducible refine below_drewN ?_ _) | (with_reducible refine Below.setCell ?_ ?_ _) | (with_reducible refine below_via ‹_› ?_ ?_) | (with_reducible refine below_grow ?_ ?_ _ _) | omega | (simp; done) | (simp; omega))); done) | (with_reducible apply SlA.at; (with_reducible assumption); (repeat' (first | (with_reducible exact Below.refl _ _) | (with_reducible refine Below.alloc ?_ ?_ _) | (with_reducible refine Below.drew ?_) | (with_reducible refine below_drewN ?_ _) | (with_reducible refine Below.setCell ?_ ?_ _) | (with_reducible refine below_via ‹_› ?_ ?_) | (with_reducible refine below_grow ?_ ?_ _ _) | omega | (simp; done) | (simp; omega))); done)) (by omega)).mono ?_
      rintro e w18 ⟨vR, rfl, hbw18, hR18⟩
      rw [hr1.out]
      have P18 := P16.below hbw18
      have A18 := A16.at hbw18
      have F18 := F16.at hbw18
      have B18 := B16.at hbw18
      have M18 := M16.at hbw18
      have G18 := G16.at hbw18
      have hzz : w16.heap.size ≤ w18.heap.size := hbw18.size
      have hB18 : Below w.heap.size w w18 := hB16.trans (hbw18.mono (by have := hB16.size; omega))
      clear P16 A16 hB16 hbw18 F16 B16 M16 G16
      obtain ⟨adR, cpR, rfl⟩ := hR18.1.form
      have hrl := hr2.out
      clear hR18
      generalize (resV ws M).length = R at hrl ⊢
      have hRb : R ≤ 5 := by omega
      have hg1 : decide (M.length < G.length) = false := by simpa using hgm
      have hg2 : decide ((M.length : Int) < (G.length : Int)) = false := by simpa using hgm
      have hg3 : (((R : Int) + (M.length : Int)) != (ws.length : Int)) = false := by simp; omega
      have hg4 : ((M.length : Int) == (ws.length : Int)) = true := by rw [HMf.out]; simp
      have HR := hid hrl
      clear hrl
      obtain ⟨f1, f2, f3, f4, f5, f6⟩ := hst.out (by trivial)
      obtain ⟨EF, hEF⟩ : ∃ z, veV s a b c 20000 20000 ws F 0 = z := ⟨_, rfl⟩
      obtain ⟨EB, hEB⟩ : ∃ z, veV s a b c 20000 20000 ws B 0 = z := ⟨_, rfl⟩
      obtain ⟨EG, hEG⟩ : ∃ z, veV s a b c 20000 20000 ws G 0 = z := ⟨_, rfl⟩
      rw [hEF, hEB] at f5
      rw [hEB, hEG] at f6
      have H1 := hid f1
      have H2 := hid f2
      have H3 := hid f3
      have H4 := hid f4
      have H6 := hid f6
      have HEF := hid hEF
      have HEB := hid hEB
      have HEG := hid hEG
      have hFl : F.length ≤ 5 := by omega
      have hBl : B.length ≤ 5 := by omega
      clear f1 f2 f3 f4 f6 hEF hEB hEG hst
      go_wp2_with fail
      have q0 := bk_since P18 (i := 0) rfl
      have q1 := bk_since P18 (i := 1) rfl
      have q2 := bk_since P18 (i := 2) rfl
      have q3 := bk_since P18 (i := 3) rfl
      go_region_held3 (fun w' => Since w18 w') ((refine since_of ?_; (repeat' (first | (with_reducible exact Below.refl _ _) | (with_reducible refine Below.alloc ?_ ?_ _) | (with_reducible refine Below.drew ?_) | (with_reducible refine below_drewN ?_ _) | (with_reducible refine Below.setCell ?_ ?_ _) | (with_reducible refine below_via ‹_› ?_ ?_) | (with_reducible refine below_grow ?_ ?_ _ _) | omega | (simp; done) | (simp; omega))))) (first | (go_at_call 19; refine (c_r8Base _).mono ?_; rintro e w19 ⟨rfl, hbw19⟩; have hzw19 := hbw19.size; (try simp at hzw19)) | (go_at_call 38; refine (r_ve H3.out HEF.out hsz (by first | (with_reducible assumption) | (with_reducible apply SlO.at; (with_reducible assumption); (repeat' (first | (with_reducible exact Below.refl _ _) | (with_reducible refine Below.alloc ?_ ?_ _) | (with_reducible refine Below.drew ?_) | (with_reducible refine below_drewN ?_ _) | (with_reducible refine Below.setCell ?_ ?_ _) | (with_reducible refine below_via ‹_› ?_ ?_) | (with_reducible refine below_grow ?_ ?_ _ _) | omega | (simp; done) | (simp; omega))); done) | (with_reducible apply SlA.at; (with_reducible assumption); (repeat' (first | (with_reducible exact Below.refl _ _) | (with_reducible refine Below.alloc ?_ ?_ _) | (with_reducible refine Below.drew ?_) | (with_reducible refine below_drewN ?_ _) | (with_reducible refine Below.setCell ?_ ?_ _) | (with_reducible refine below_via ‹_› ?_ ?_) | (with_reducible refine below_grow ?_ ?_ _ _) | omega | (simp; done) | (simp; omega))); done)) hok (by first | (with_reducible assumption) | (with_reducible apply SlO.at; (with_reducible assumption); (repeat' (first | (with_reducible exact Below.refl _ _) | (with_reducible refine Below.alloc ?_ ?_ _) | (with_reducible refine Below.drew ?_) | (with_reducible refine below_drewN ?_ _) | (with_reducible refine Below.setCell ?_ ?_ _) | (with_reducible refine below_via ‹_› ?_ ?_) | (with_reducible refine below_grow ?_ ?_ _ _) | omega | (simp; done) | (simp; omega))); done) | (with_reducible apply SlA.at; (with_reducible assumption); (repeat' (first | (with_reducible exact Below.refl _ _) | (with_reducible refine Below.alloc ?_ ?_ _) | (with_reducible refine Below.drew ?_) | (with_reducible refine below_drewN ?_ _) | (with_reducible refine Below.setCell ?_ ?_ _) | (with_reducible refine below_via ‹_› ?_ ?_) | (with_reducible refine below_grow ?_ ?_ _ _) | omega | (simp; done) | (simp; omega))); done)) (by omega)).mono ?_; rintro e w20 ⟨rfl, hbw20⟩; have hzw20 := hbw20.size; (try simp at hzw20)) | fail)
      have hbw20 : Below w18.heap.size w18 w20 := by (repeat' (first | (with_reducible exact Below.refl _ _) | (with_reducible refine Below.alloc ?_ ?_ _) | (with_reducible refine Below.drew ?_) | (with_reducible refine below_drewN ?_ _) | (with_reducible refine Below.setCell ?_ ?_ _) | (with_reducible refine below_via ‹_› ?_ ?_) | (with_reducible refine below_grow ?_ ?_ _ _) | omega | (simp; done) | (simp; omega)))
      clear q0 q1 q2 q3 hbw19
      have P20 := P18.below hbw20
      have A20 := A18.at hbw20
      have F20 := F18.at hbw20
      have B20 := B18.at hbw20
      have M20 := M18.at hbw20
      have G20 := G18.at hbw20
      have hzz : w18.heap.size ≤ w20.heap.size := hbw20.size
      have hB20 : Below w.heap.size w w20 := hB18.trans (hbw20.mono (by have := hB18.size; omega))
      clear P18 A18 hB18 hbw20 F18 B18 M18 G18
      go_wp2_with fail
      have q0 := bk_since P20 (i := 0) rfl
      have q1 := bk_since P20 (i := 1) rfl
      have q2 := bk_since P20 (i := 2) rfl
      have q3 := bk_since P20 (i := 3) rfl
      go_region_held3 (fun w' => Since w20 w') ((refine since_of ?_; (repeat' (first | (with_reducible exact Below.refl _ _) | (with_reducible refine Below.alloc ?_ ?_ _) | (with_reducible refine Below.drew ?_) | (with_reducible refine below_drewN ?_ _) | (with_reducible refine Below.setCell ?_ ?_ _) | (with_reducible refine below_via ‹_› ?_ ?_) | (with_reducible refine below_grow ?_ ?_ _ _) | omega | (simp; done) | (simp; omega))))) (first | (go_at_call 19; refine (c_r8Base _).mono ?_; rintro e w21 ⟨rfl, hbw21⟩; have hzw21 := hbw21.size; (try simp at hzw21)) | (go_at_call 38; refine (r_ve H4.out HEB.out hsz (by first | (with_reducible assumption) | (with_reducible apply SlO.at; (with_reducible assumption); (repeat' (first | (with_reducible exact Below.refl _ _) | (with_reducible refine Below.alloc ?_ ?_ _) | (with_reducible refine Below.drew ?_) | (with_reducible refine below_drewN ?_ _) | (with_reducible refine Below.setCell ?_ ?_ _) | (with_reducible refine below_via ‹_› ?_ ?_) | (with_reducible refine below_grow ?_ ?_ _ _) | omega | (simp; done) | (simp; omega))); done) | (with_reducible apply SlA.at; (with_reducible assumption); (repeat' (first | (with_reducible exact Below.refl _ _) | (with_reducible refine Below.alloc ?_ ?_ _) | (with_reducible refine Below.drew ?_) | (with_reducible refine below_drewN ?_ _) | (with_reducible refine Below.setCell ?_ ?_ _) | (with_reducible refine below_via ‹_› ?_ ?_) | (with_reducible refine below_grow ?_ ?_ _ _) | omega | (simp; done) | (simp; omega))); done)) hok (by first | (with_reducible assumption) | (with_reducible apply SlO.at; (with_reducible assumption); (repeat' (first | (with_reducible exact Below.refl _ _) | (with_reducible refine Below.alloc ?_ ?_ _) | (with_reducible refine Below.drew ?_) | (with_reducible refine below_drewN ?_ _) | (with_reducible refine Below.setCell ?_ ?_ _) | (with_reducible refine below_via ‹_› ?_ ?_) | (with_reducible refine below_grow ?_ ?_ _ _) | omega | (simp; done) | (simp; omega))); done) | (with_reducible apply SlA.at; (with_reducible assumption); (repeat' (first | (with_reducible exact Below.refl _ _) | (with_reducible refine Below.alloc ?_ ?_ _) | (with_reducible refine Below.drew ?_) | (with_reducible refine below_drewN ?_ _) | (with_reducible refine Below.setCell ?_ ?_ _) | (with_reducible refine below_via ‹_› ?_ ?_) | (with_reducible refine below_grow ?_ ?_ _ _) | omega | (simp; done) | (simp; omega))); done)) (by omega)).mono ?_; rintro e w22 ⟨rfl, hbw22⟩; have hzw22 := hbw22.size; (try simp at hzw22)) | fail)
      have hbw22 : Below w20.heap.size w20 w22 := by (repeat' (first | (with_reducible exact Below.refl _ _) | (with_reducible refine Below.alloc ?_ ?_ _) | (with_reducible refine Below.drew ?_) | (with_reducible refine below_drewN ?_ _) | (with_reducible refine Below.setCell ?_ ?_ _) | (with_reducible refine below_via ‹_› ?_ ?_) | (with_reducible refine below_grow ?_ ?_ _ _) | omega | (simp; done) | (simp; omega)))
      clear q0 q1 q2 q3 hbw21
      have P22 := P20.below hbw22
      have A22 := A20.at hbw22
      have F22 := F20.at hbw22
      have B22 := B20.at hbw22
      have M22 := M20.at hbw22
      have G22 := G20.at hbw22
      have hzz : w20.heap.size ≤ w22.heap.size := hbw22.size
      have hB22 : Below w.heap.size w w22 := hB20.trans (hbw22.mono (by have := hB20.size; omega))
      clear P20 A20 hB20 hbw22 F20 B20 M20 G20
      go_wp2_with fail
      have q0 := bk_since P22 (i := 0) rfl
      have q1 := bk_since P22 (i := 1) rfl
      have q2 := bk_since P22 (i := 2) rfl
      have q3 := bk_since P22 (i := 3) rfl
      go_region_held3 (fun w' => Since w22 w') ((refine since_of ?_; (repeat' (first | (with_reducible exact Below.refl _ _) | (with_reducible refine Below.alloc ?_ ?_ _) | (with_reducible refine Below.drew ?_) | (with_reducible refine below_drewN ?_ _) | (with_reducible refine Below.setCell ?_ ?_ _) | (with_reducible refine below_via ‹_› ?_ ?_) | (with_reducible refine below_grow ?_ ?_ _ _) | omega | (simp; done) | (simp; omega))))) (first | (go_at_call 19; refine (c_r8Base _).mono ?_; rintro e w23 ⟨rfl, hbw23⟩; have hzw23 := hbw23.size; (try simp at hzw23)) | (go_at_call 38; refine (r_ve vg.out HEG.out hsz (by first | (with_reducible assumption) | (with_reducible apply SlO.at; (with_reducible assumption); (repeat' (first | (with_reducible exact Below.refl _ _) | (with_reducible refine Below.alloc ?_ ?_ _) | (with_reducible refine Below.drew ?_) | (with_reducible refine below_drewN ?_ _) | (with_reducible refine Below.setCell ?_ ?_ _) | (with_reducible refine below_via ‹_› ?_ ?_) | (with_reducible refine below_grow ?_ ?_ _ _) | omega | (simp; done) | (simp; omega))); done) | (with_reducible apply SlA.at; (with_reducible assumption); (repeat' (first | (with_reducible exact Below.refl _ _) | (with_reducible refine Below.alloc ?_ ?_ _) | (with_reducible refine Below.drew ?_) | (with_reducible refine below_drewN ?_ _) | (with_reducible refine Below.setCell ?_ ?_ _) | (with_reducible refine below_via ‹_› ?_ ?_) | (with_reducible refine below_grow ?_ ?_ _ _) | omega | (simp; done) | (simp; omega))); done)) hok (by first | (with_reducible assumption) | (with_reducible apply SlO.at; (with_reducible assumption); (repeat' (first | (with_reducible exact Below.refl _ _) | (with_reducible refine Below.alloc ?_ ?_ _) | (with_reducible refine Below.drew ?_) | (with_reducible refine below_drewN ?_ _) | (with_reducible refine Below.setCell ?_ ?_ _) | (with_reducible refine below_via ‹_› ?_ ?_) | (with_reducible refine below_grow ?_ ?_ _ _) | omega | (simp; done) | (simp; omega))); done) | (with_reducible apply SlA.at; (with_reducible assumption); (repeat' (first | (with_reducible exact Below.refl _ _) | (with_reducible refine Below.alloc ?_ ?_ _) | (with_reducible refine Below.drew ?_) | (with_reducible refine below_drewN ?_ _) | (with_reducible refine Below.setCell ?_ ?_ _) | (with_reducible refine below_via ‹_› ?_ ?_) | (with_reducible refine below_grow ?_ ?_ _ _) | omega | (simp; done) | (simp; omega))); done)) (by omega)).mono ?_; rintro e w24 ⟨rfl, hbw24⟩; have hzw24 := hbw24.size; (try simp at hzw24)) | fail)
      have hbw24 : Below w22.heap.size w22 w24 := by (repeat' (first | (with_reducible exact Below.refl _ _) | (with_reducible refine Below.alloc ?_ ?_ _) | (with_reducible refine Below.drew ?_) | (with_reducible refine below_drewN ?_ _) | (with_reducible refine Below.setCell ?_ ?_ _) | (with_reducible refine below_via ‹_› ?_ ?_) | (with_reducible refine below_grow ?_ ?_ _ _) | omega | (simp; done) | (simp; omega)))
      clear q0 q1 q2 q3 hbw23
      have P24 := P22.below hbw24
      have A24 := A22.at hbw24
      have F24 := F22.at hbw24
      have B24 := B22.at hbw24
      have M24 := M22.at hbw24
      have G24 := G22.at hbw24
      have hzz : w22.heap.size ≤ w24.heap.size := hbw24.size
      have hB24 : Below w.heap.size w w24 := hB22.trans (hbw24.mono (by have := hB22.size; omega))
      clear P22 A22 hB22 hbw24 F22 B22 M22 G22
      have i1 : ((F.length : Int) == (ws.length : Int)) = true := by rw [H1.out]; simp
      have i2 : ((B.length : Int) == (ws.length : Int)) = true := by rw [H2.out]; simp
      have i3 : decide (EB ≤ EF) = true := by simpa using f5
      by_cases hGf : G.length < ws.length
      · have i4 : decide (G.length < ws.length) = true := by simpa using hGf
        have i4' : decide ((G.length : Int) < (ws.length : Int)) = true := by simpa using hGf
        go_wp2_with fail
        go_ret
        exact ⟨rfl, hB24⟩
      · have i4 : decide (G.length < ws.length) = false := by simpa using hGf
        have i4' : decide ((G.length : Int) < (ws.length : Int)) = false := by simpa using hGf
        have i5 := H6.out (by have := HMf.out; omega)
        have i6 : decide (EB ≤ EG) = true := by simpa using i5
        go_wp2_with fail
        go_ret
        exact ⟨rfl, hB24⟩

open Go.ChangeShapes Go.WideShapes Go.ChangeAt
theorem own : ownKnob Try.prog.godebug = none := by kernel_rfl
theorem laidOut : laidOutB Try.prog = true := by kernel_rfl

theorem lifted (os : Os) (started : os.Started) (H : Type) (enc : TypeId × Value → H) :
    ReturnsInHanded {} Try.checked os 5 .any (Rows.fnRoutesSpec.pre6 enc Try.prog Try.f5 Rows.fnRoutesRow.domain false) (Rows.fnRoutesSpec.post enc Try.prog Try.f5 false true false false) := by
  refine returnsInHanded_of_change (C := Try.checked) own started (by kernel_rfl) Try.func5
    (ChangeSpec.witness6 (enc := enc) (C := Try.checked) false ⟨#[], #[.slice none 0 0, .slice none 0 0], []⟩ 8 (by kernel_rfl) (by kernel_rfl) (by kernel_rfl) (by kernel_rfl)) ?_
  intro W base args ds gs before hval0 hW hcnd _
  have hval : ∀ (j : Nat) t v, Try.f5.params[j]? = some t → args[j]? = some v → Value.okWide Try.prog W .any base t v := hval0
  have hW' := hW
  obtain ⟨p, q, hA0, hV, rfl, hfz, hnd⟩ := hW
  have hA : DataW.TrodAll enc Try.prog W 0 (fun _ => true) true Try.f5.params.toList args.toList ds p := hA0
  rw [Try.params5] at hA hval
  obtain ⟨u0, vs0, e0, ds0, p0, q0, hargs, rfl, rfl, t0, r0⟩ := trodAll_cons hA
  obtain ⟨u1, vs1, e1, ds1, p1, q1, rfl, rfl, rfl, t1, r1⟩ := trodAll_cons r0
  obtain ⟨rfl, rfl, rfl⟩ := trodAll_nil r1
  obtain rfl : args = #[u0, u1] := by cases args; simp_all
  obtain ⟨rfl, rfl⟩ := trodVars_none hV
  have t0' := t0
  have lt0 : ∀ x ∈ p0, x.block < W.heap.size := by obtain ⟨m, hm⟩ := t0'; exact DataW.trod_lt m _ _ _ hm
  obtain ⟨xs0, h0, k0⟩ := open_U8S (hval 0 22 u0 rfl rfl) t0
  have t1' := t1
  have lt1 : ∀ x ∈ p1, x.block < W.heap.size := by obtain ⟨m, hm⟩ := t1'; exact DataW.trod_lt m _ _ _ hm
  obtain ⟨xs1, h1, k1⟩ := open_U8S (hval 1 22 u1 rfl rfl) t1
  clear hA0 hval0
  refine (walk u0 xs0 u1 xs1 W h0 k0 h1 k1).mono fun e W' ⟨he, bel⟩ => ?_
  subst he
  exact ⟨_, rfl, _, _, _, [], _, [], hW', trodAll_mk1 (shut_bool Try.underlying4 _), (trodAll_cons_mk (Below.trod laidOut (by kernel_rfl) (of_decide_eq_true (by kernel_rfl)) t0' bel lt0) (trodAll_cons_mk (Below.trod laidOut (by kernel_rfl) (of_decide_eq_true (by kernel_rfl)) t1' bel lt1) trodAll_mk0)), rfl, bel.frame _, fun h => by cases h⟩

theorem proved : Rows.FnRoutesSaid :=
  OpenClaim.holds_of_wide 5 Try.f5 rfl rfl rfl rfl rfl rfl rfl ⟨rfl, rfl, rfl, rfl, rfl⟩ rfl rfl rfl rfl rfl (by kernel_rfl) Try.func5 (by kernel_rfl)
    (of_decide_eq_true (by kernel_rfl)) (by unfold Func.isWrapper; first | (rw [if_pos (by decide +kernel)]; kernel_rfl) | (rw [if_neg (by decide +kernel)]; exact ⟨rfl, rfl⟩))
    (fun os started H enc _ => lifted os started H enc)
#print axioms proved
end Go.Proofs.Ytmolcfagmiecjaa.lawFnRoutes
