/- 'FnVoyage' returns true for every input: calls follow one another, and the latest start is the last one that is possible. No condition. -/
import Derived.Test.YtmolcfagmiecjaaDrawV
import Derived.Test.YtmolcfagmiecjaaPlanV
import Derived.Test.YtmolcfagmiecjaaGreedI
import Derived.Test.YtmolcfagmiecjaaVoyL
import Derived.Deep.RegionHeld3
namespace Go.Proofs.Ytmolcfagmiecjaa.lawFnVoyage
open Go.RowKit Go.Sort
set_option linter.unusedVariables false
set_option maxRecDepth 100000

def LongR (n m : Nat) (w : World) (e : Ending) (w' : World) : Prop := ∃ b : Bool, e = .returned (.bool b) ∧ (b = false → n ≤ 1048576 ∧ m ≤ 1048576) ∧ w = w'
theorem c_r8Long (n m : Nat) (ad ad' : Option Addr) (c c' : Nat) (w : World) :
    Calls Try.prog 15 #[.slice ad n c, .slice ad' m c'] w (LongR n m w) := by
  go_enter Try.func15, Try.ntmps15
  go_wp2
  all_goals (go_ret; refine ⟨_, rfl, fun h => ?_, rfl⟩; first | (simp at h; done) | (simp at h; omega))
theorem c_r8Base (w : World) : Calls Try.prog 19 #[] w fun e w' => e = .returned (.agg #[.int .i64 20000, .int .i64 20000]) ∧ Below w.heap.size w w' := by
  go_enter Try.func19, Try.ntmps19
  go_wp2
  refine bodyPost_ret (v := .agg #[.int .i64 20000, .int .i64 20000]) (by simp [results, Try.results19, go_sem]) rfl ⟨rfl, by (repeat' (first | (with_reducible exact Below.refl _ _) | (with_reducible refine Below.alloc ?_ ?_ _) | (with_reducible refine Below.drew ?_) | (with_reducible refine below_drewN ?_ _) | (with_reducible refine Below.setCell ?_ ?_ _) | (with_reducible refine below_via ‹_› ?_ ?_) | (with_reducible refine below_grow ?_ ?_ _ _) | omega | (simp; done) | (simp; omega)))⟩

theorem bk_since {W : World} {X i : Nat} {T : TypeId} {cs : List Value} (h : Bk W X T cs) {u : Value} (hu : cs[i]? = some u) : ∀ w', Since W w' → w'.cell? ⟨X, i, none⟩ = some u := fun w' hs => below_cell hs.out h.lt (h.cell i hu)
section
variable {s : ByteArray} {a b c : Int} {ws : List WorkD} {os : List Int} {cs : List CallD} {v u : Value} {w : World}
def ship (s : ByteArray) (a b c : Int) : Value := .agg #[.string s, .int .i64 a, .int .i64 b, .int .i64 c]
def base : Value := .agg #[.int .i64 20000, .int .i64 20000]
theorem v_of (P : PlanV s a b c 20000 20000 ws os cs) (hs : s.size ≤ maxLen) (h : SlA w 0 7 encWork v ws) (hok : ∀ x ∈ ws, okWork x) (hu : SlA w 0 1 encI u os) (hl : os.length ≤ 1048576) :
    Calls Try.prog 20 #[.agg #[.string s, .int .i64 a, .int .i64 b, .int .i64 c], .agg #[.int .i64 20000, .int .i64 20000], v, u, .int .i64 0] w fun e w' => CallsCode w w' cs 0 e := by
  have := c_impl_VoyageOf s a b c 20000 20000 v u ws os 0 w hs h hok hu hl
  rw [P.vol, P.voc] at this; exact this
theorem v_end (P : PlanV s a b c 20000 20000 ws os cs) (hs : s.size ≤ maxLen) (h : SlA w 0 7 encWork v ws) (hok : ∀ x ∈ ws, okWork x) (hu : SlA w 0 1 encI u os) (hl : os.length ≤ 1048576) {E : Int} (hE : veV s a b c 20000 20000 ws os 0 = E) :
    Calls Try.prog 21 #[.agg #[.string s, .int .i64 a, .int .i64 b, .int .i64 c], .agg #[.int .i64 20000, .int .i64 20000], v, u, .int .i64 0] w fun e w' => e = .returned (.tuple #[.int .i64 E, .int .i64 0]) ∧ Below w.heap.size w w' := by
  subst hE
  have := c_impl_VoyageEnd s a b c 20000 20000 v u ws os 0 w hs h hok hu hl
  rw [P.voc] at this; exact this
theorem v_load (P : PlanV s a b c 20000 20000 ws os cs) (h : SlA w 0 7 encWork v ws) (hok : ∀ x ∈ ws, okWork x) (hu : SlA w 0 1 encI u os) (hl : os.length ≤ 1048576) :
    Calls Try.prog 22 #[v, u] w fun e w' => e = .returned (.tuple #[.int .i64 (ldF ws os os.length), .int .i64 0]) ∧ Below w.heap.size w w' := by
  have := c_impl_LoadOf v u ws os w h hok hu hl
  rw [P.lov, P.orc] at this; exact this
theorem v_late (P : PlanV s a b c 20000 20000 ws os cs) (hs : s.size ≤ maxLen) (h : SlA w 0 7 encWork v ws) (hok : ∀ x ∈ ws, okWork x) (hu : SlA w 0 1 encI u os) (hl : os.length ≤ 1048576) {E : Int} (hE : lateV s a b c 20000 20000 ws os = E) :
    Calls Try.prog 25 #[.agg #[.string s, .int .i64 a, .int .i64 b, .int .i64 c], .agg #[.int .i64 20000, .int .i64 20000], v, u] w fun e w' => e = .returned (.tuple #[.int .i64 E, .int .i64 0]) ∧ Below w.heap.size w w' := by
  subst hE
  have := c_impl_LatestStart s a b c 20000 20000 v u ws os w hs h hok hu hl
  rw [P.latc] at this; exact this
theorem v_trav {px py X Y T : Int} (hv : shipB s a b c = true) (hs : s.size ≤ maxLen) (hp : pointB px py = true) (hq : pointB X Y = true) (hT : T = travelT a px py X Y) :
    Calls Try.prog 23 #[.agg #[.string s, .int .i64 a, .int .i64 b, .int .i64 c], .agg #[.int .i64 px, .int .i64 py], .agg #[.int .i64 X, .int .i64 Y]] w fun e w' => e = .returned (.tuple #[.int .i64 T, .int .i64 0]) ∧ Below w.heap.size w w' := by
  have := c_impl_TravelTime s a b c px py X Y w hs
  rw [ttV, ttC, hv, hp, hq] at this
  rw [hT]; exact this
def LoopV (pb : Nat) (W : World) (ws : List WorkD) (os : List Int) (cs : List CallD) (nw wt i : Value) (wr : World) : Prop :=
  ∃ j : Nat, i = .int .i64 j ∧ j ≤ cs.length ∧ nw = .int .i64 (lpt 0 (cs.take j)) ∧ wt = .int .i64 (wtS cs j) ∧ Bk wr pb 33 [.int .i64 (lpx ws 20000 (os.take j)), .int .i64 (lpy ws 20000 (os.take j))] ∧ Below pb W wr
def SomeCode (k : Int) (w : World) (e : Ending) (w' : World) : Prop := ∃ x, e = .returned (.tuple #[x, .int .i64 k]) ∧ Below w.heap.size w w'
theorem v_at (P : PlanV s a b c 20000 20000 ws os cs) (hs : s.size ≤ maxLen) (h : SlA w 0 7 encWork v ws) (hok : ∀ x ∈ ws, okWork x) (hu : SlA w 0 1 encI u os) (hl : os.length ≤ 1048576) (t k : Int) (hk : voC s a b c 20000 20000 ws os t = k) :
    Calls Try.prog 20 #[.agg #[.string s, .int .i64 a, .int .i64 b, .int .i64 c], .agg #[.int .i64 20000, .int .i64 20000], v, u, .int .i64 t] w (SomeCode k w) := by
  refine (c_impl_VoyageOf s a b c 20000 20000 v u ws os t w hs h hok hu hl).mono ?_
  rintro e w' ⟨x, rfl, hb, -⟩
  exact ⟨x, by rw [hk], hb⟩
end
set_option maxHeartbeats 4000000 in
theorem walk (v0 : Value) (bs0 : List Int) (v1 : Value) (bs1 : List Int) (w : World) (h0 : SlA w 0 1 encU v0 bs0) (k0 : ∀ x ∈ bs0, 0 ≤ x ∧ x ≤ 255) (h1 : SlA w 0 1 encU v1 bs1) (k1 : ∀ x ∈ bs1, 0 ≤ x ∧ x ≤ 255) :
    Calls Try.prog 3 #[v0, v1] w fun e w' => e = .returned (.bool true) ∧ Below w.heap.size w w' := by
  obtain ⟨ad0, cp0, rfl⟩ := h0.form
  obtain ⟨ad1, cp1, rfl⟩ := h1.form
  go_enter Try.func3, Try.ntmps3
  go_wp2_with fail
  refine (c_r8Long _ _ _ _ _ _ _).mono ?_
  rintro e w' ⟨bb, rfl, hlen, rfl⟩
  cases bb with
  | true =>
    go_wp2_with fail
    go_ret
    exact ⟨rfl, Below.refl _ _⟩
  | false =>
    obtain ⟨hl0, hl1⟩ := hlen rfl
    clear hlen
    go_wp2_with fail
    refine (c_R8Ship _ bs1 _ (by first | (with_reducible assumption) | (with_reducible apply SlO.at; (with_reducible assumption); (repeat' (first | (with_reducible exact Below.refl _ _) | (with_reducible refine Below.alloc ?_ ?_ _) | (with_reducible refine Below.drew ?_) | (with_reducible refine below_drewN ?_ _) | (with_reducible refine Below.setCell ?_ ?_ _) | (with_reducible refine below_via ‹_› ?_ ?_) | (with_reducible refine below_grow ?_ ?_ _ _) | omega | (simp; done) | (simp; omega))); done) | (with_reducible apply SlA.at; (with_reducible assumption); (repeat' (first | (with_reducible exact Below.refl _ _) | (with_reducible refine Below.alloc ?_ ?_ _) | (with_reducible refine Below.drew ?_) | (with_reducible refine below_drewN ?_ _) | (with_reducible refine Below.setCell ?_ ?_ _) | (with_reducible refine below_via ‹_› ?_ ?_) | (with_reducible refine below_grow ?_ ?_ _ _) | omega | (simp; done) | (simp; omega))); done)) hl1 k1).mono ?_
    rintro e w1 ⟨s, a, b, c, rfl, hs, hsz, hb1⟩
    have hz1 := hb1.size
    go_wp2_with fail
    refine (c_R8Works _ bs0 _ (by first | (with_reducible assumption) | (with_reducible apply SlO.at; (with_reducible assumption); (repeat' (first | (with_reducible exact Below.refl _ _) | (with_reducible refine Below.alloc ?_ ?_ _) | (with_reducible refine Below.drew ?_) | (with_reducible refine below_drewN ?_ _) | (with_reducible refine Below.setCell ?_ ?_ _) | (with_reducible refine below_via ‹_› ?_ ?_) | (with_reducible refine below_grow ?_ ?_ _ _) | omega | (simp; done) | (simp; omega))); done) | (with_reducible apply SlA.at; (with_reducible assumption); (repeat' (first | (with_reducible exact Below.refl _ _) | (with_reducible refine Below.alloc ?_ ?_ _) | (with_reducible refine Below.drew ?_) | (with_reducible refine below_drewN ?_ _) | (with_reducible refine Below.setCell ?_ ?_ _) | (with_reducible refine below_via ‹_› ?_ ?_) | (with_reducible refine below_grow ?_ ?_ _ _) | omega | (simp; done) | (simp; omega))); done)) hl0 k0).mono ?_
    rintro e w2 ⟨vw, ws, rfl, hb2, hS2, hwl, hws⟩
    obtain ⟨hW, hok⟩ := drawn_works hws hwl
    have HW := hid hW
    have HS := hid hs
    clear hws hW hs
    have A2 : SlA w2 0 7 encWork vw ws := hS2.1.mono (Nat.zero_le _)
    have P2 : Bk w2 w1.heap.size 25 [.string s, .int .i64 a, .int .i64 b, .int .i64 c] := (Bk.new w1 _ _).below hb2
    have hz2 := hb2.size
    simp at hz2
    have hB2 : Below w.heap.size w w2 := hb1.trans ((((Below.refl w1.heap.size w1).alloc (Nat.le_refl _) _).trans (hb2.mono (by simp))).mono hb1.size)
    clear hb1 hb2 hS2
    go_wp2_with fail
    have q0 := bk_since P2 (i := 0) rfl
    have q1 := bk_since P2 (i := 1) rfl
    have q2 := bk_since P2 (i := 2) rfl
    have q3 := bk_since P2 (i := 3) rfl
    go_region_held3 (fun w' => Since w2 w') ((refine since_of ?_; (repeat' (first | (with_reducible exact Below.refl _ _) | (with_reducible refine Below.alloc ?_ ?_ _) | (with_reducible refine Below.drew ?_) | (with_reducible refine below_drewN ?_ _) | (with_reducible refine Below.setCell ?_ ?_ _) | (with_reducible refine below_via ‹_› ?_ ?_) | (with_reducible refine below_grow ?_ ?_ _ _) | omega | (simp; done) | (simp; omega))))) (first | (go_at_call 19; refine (c_r8Base _).mono ?_; rintro e w3 ⟨rfl, hbw3⟩; have hzw3 := hbw3.size; (try simp at hzw3)) | (go_at_call 18; refine (c_spec_GreedyVoyage s a b c 20000 20000 vw ws 0 _ hsz (by first | (with_reducible assumption) | (with_reducible apply SlO.at; (with_reducible assumption); (repeat' (first | (with_reducible exact Below.refl _ _) | (with_reducible refine Below.alloc ?_ ?_ _) | (with_reducible refine Below.drew ?_) | (with_reducible refine below_drewN ?_ _) | (with_reducible refine Below.setCell ?_ ?_ _) | (with_reducible refine below_via ‹_› ?_ ?_) | (with_reducible refine below_grow ?_ ?_ _ _) | omega | (simp; done) | (simp; omega))); done) | (with_reducible apply SlA.at; (with_reducible assumption); (repeat' (first | (with_reducible exact Below.refl _ _) | (with_reducible refine Below.alloc ?_ ?_ _) | (with_reducible refine Below.drew ?_) | (with_reducible refine below_drewN ?_ _) | (with_reducible refine Below.setCell ?_ ?_ _) | (with_reducible refine below_via ‹_› ?_ ?_) | (with_reducible refine below_grow ?_ ?_ _ _) | omega | (simp; done) | (simp; omega))); done)) hok).mono ?_; rintro e w4 ⟨vo, rfl, hbw4, hO4⟩; have hzw4 := hbw4.size; (try simp at hzw4)) | fail)
    have hbw4 : Below w2.heap.size w2 w4 := by (repeat' (first | (with_reducible exact Below.refl _ _) | (with_reducible refine Below.alloc ?_ ?_ _) | (with_reducible refine Below.drew ?_) | (with_reducible refine below_drewN ?_ _) | (with_reducible refine Below.setCell ?_ ?_ _) | (with_reducible refine below_via ‹_› ?_ ?_) | (with_reducible refine below_grow ?_ ?_ _ _) | omega | (simp; done) | (simp; omega)))
    clear q0 q1 q2 q3 hbw3
    have hz4 : w2.heap.size ≤ w4.heap.size := hbw4.size
    have hN : askN s a b c 20000 20000 ws 0 = 0 := askC_mk HS.out (by decide) HW.out (by omega) (by omega) rfl
    have hF := grL_fine (by have := shipB_true HS.out; omega) hN
    generalize askN s a b c 20000 20000 ws 0 = cd0
    clear hN
    generalize grL s a b c 20000 20000 ws 0 = os at hO4 hF
    obtain ⟨cs, hP⟩ := plan_ok HS.out (by decide) HW.out hF
    obtain ⟨E, hE⟩ : ∃ z, veV s a b c 20000 20000 ws os 0 = z := ⟨_, rfl⟩
    have HE := hid hE
    clear hE
    have hosl : os.length ≤ 5 := by have := hP.len; omega
    have P4 := P2.below hbw4
    have A4 := A2.at hbw4
    have O4 : SlA w4 0 1 encI vo os := hO4.1.mono (Nat.zero_le _)
    have hB4 : Below w.heap.size w w4 := hB2.trans (hbw4.mono (by omega))
    clear hO4 P2 A2 hB2 hF hbw4
    go_wp2_with fail
    have q0 := bk_since P4 (i := 0) rfl
    have q1 := bk_since P4 (i := 1) rfl
    have q2 := bk_since P4 (i := 2) rfl
    have q3 := bk_since P4 (i := 3) rfl
    go_region_held3 (fun w' => Since w4 w') ((refine since_of ?_; (repeat' (first | (with_reducible exact Below.refl _ _) | (with_reducible refine Below.alloc ?_ ?_ _) | (with_reducible refine Below.drew ?_) | (with_reducible refine below_drewN ?_ _) | (with_reducible refine Below.setCell ?_ ?_ _) | (with_reducible refine below_via ‹_› ?_ ?_) | (with_reducible refine below_grow ?_ ?_ _ _) | omega | (simp; done) | (simp; omega))))) (first | (go_at_call 19; refine (c_r8Base _).mono ?_; rintro e w5 ⟨rfl, hbw5⟩; have hzw5 := hbw5.size; (try simp at hzw5)) | (go_at_call 20; refine (v_of hP hsz (by first | (with_reducible assumption) | (with_reducible apply SlO.at; (with_reducible assumption); (repeat' (first | (with_reducible exact Below.refl _ _) | (with_reducible refine Below.alloc ?_ ?_ _) | (with_reducible refine Below.drew ?_) | (with_reducible refine below_drewN ?_ _) | (with_reducible refine Below.setCell ?_ ?_ _) | (with_reducible refine below_via ‹_› ?_ ?_) | (with_reducible refine below_grow ?_ ?_ _ _) | omega | (simp; done) | (simp; omega))); done) | (with_reducible apply SlA.at; (with_reducible assumption); (repeat' (first | (with_reducible exact Below.refl _ _) | (with_reducible refine Below.alloc ?_ ?_ _) | (with_reducible refine Below.drew ?_) | (with_reducible refine below_drewN ?_ _) | (with_reducible refine Below.setCell ?_ ?_ _) | (with_reducible refine below_via ‹_› ?_ ?_) | (with_reducible refine below_grow ?_ ?_ _ _) | omega | (simp; done) | (simp; omega))); done)) hok (by first | (with_reducible assumption) | (with_reducible apply SlO.at; (with_reducible assumption); (repeat' (first | (with_reducible exact Below.refl _ _) | (with_reducible refine Below.alloc ?_ ?_ _) | (with_reducible refine Below.drew ?_) | (with_reducible refine below_drewN ?_ _) | (with_reducible refine Below.setCell ?_ ?_ _) | (with_reducible refine below_via ‹_› ?_ ?_) | (with_reducible refine below_grow ?_ ?_ _ _) | omega | (simp; done) | (simp; omega))); done) | (with_reducible apply SlA.at; (with_reducible assumption); (repeat' (first | (with_reducible exact Below.refl _ _) | (with_reducible refine Below.alloc ?_ ?_ _) | (with_reducible refine Below.drew ?_) | (with_reducible refine below_drewN ?_ _) | (with_reducible refine Below.setCell ?_ ?_ _) | (with_reducible refine below_via ‹_› ?_ ?_) | (with_reducible refine below_grow ?_ ?_ _ _) | omega | (simp; done) | (simp; omega))); done)) (by omega)).mono ?_; rintro e w6 ⟨vc, rfl, hbw6, hC6⟩; have hzw6 := hbw6.size; (try simp at hzw6)) | fail)
    have hbw6 : Below w4.heap.size w4 w6 := by (repeat' (first | (with_reducible exact Below.refl _ _) | (with_reducible refine Below.alloc ?_ ?_ _) | (with_reducible refine Below.drew ?_) | (with_reducible refine below_drewN ?_ _) | (with_reducible refine Below.setCell ?_ ?_ _) | (with_reducible refine below_via ‹_› ?_ ?_) | (with_reducible refine below_grow ?_ ?_ _ _) | omega | (simp; done) | (simp; omega)))
    clear q0 q1 q2 q3 hbw5
    have P6 := P4.below hbw6
    have A6 := A4.at hbw6
    have O6 := O4.at hbw6
    have hzz : w4.heap.size ≤ w6.heap.size := hbw6.size
    have C6 : SlA w6 0 4 encCall vc cs := hC6.1.mono (Nat.zero_le _)
    have hB6 : Below w.heap.size w w6 := hB4.trans (hbw6.mono (by omega))
    clear hC6 P4 A4 O4 hB4 hbw6
    go_wp2_with fail
    have q0 := bk_since P6 (i := 0) rfl
    have q1 := bk_since P6 (i := 1) rfl
    have q2 := bk_since P6 (i := 2) rfl
    have q3 := bk_since P6 (i := 3) rfl
    go_region_held3 (fun w' => Since w6 w') ((refine since_of ?_; (repeat' (first | (with_reducible exact Below.refl _ _) | (with_reducible refine Below.alloc ?_ ?_ _) | (with_reducible refine Below.drew ?_) | (with_reducible refine below_drewN ?_ _) | (with_reducible refine Below.setCell ?_ ?_ _) | (with_reducible refine below_via ‹_› ?_ ?_) | (with_reducible refine below_grow ?_ ?_ _ _) | omega | (simp; done) | (simp; omega))))) (first | (go_at_call 19; refine (c_r8Base _).mono ?_; rintro e w7 ⟨rfl, hbw7⟩; have hzw7 := hbw7.size; (try simp at hzw7)) | (go_at_call 21; refine (v_end hP hsz (by first | (with_reducible assumption) | (with_reducible apply SlO.at; (with_reducible assumption); (repeat' (first | (with_reducible exact Below.refl _ _) | (with_reducible refine Below.alloc ?_ ?_ _) | (with_reducible refine Below.drew ?_) | (with_reducible refine below_drewN ?_ _) | (with_reducible refine Below.setCell ?_ ?_ _) | (with_reducible refine below_via ‹_› ?_ ?_) | (with_reducible refine below_grow ?_ ?_ _ _) | omega | (simp; done) | (simp; omega))); done) | (with_reducible apply SlA.at; (with_reducible assumption); (repeat' (first | (with_reducible exact Below.refl _ _) | (with_reducible refine Below.alloc ?_ ?_ _) | (with_reducible refine Below.drew ?_) | (with_reducible refine below_drewN ?_ _) | (with_reducible refine Below.setCell ?_ ?_ _) | (with_reducible refine below_via ‹_› ?_ ?_) | (with_reducible refine below_grow ?_ ?_ _ _) | omega | (simp; done) | (simp; omega))); done)) hok (by first | (with_reducible assumption) | (with_reducible apply SlO.at; (with_reducible assumption); (repeat' (first | (with_reducible exact Below.refl _ _) | (with_reducible refine Below.alloc ?_ ?_ _) | (with_reducible refine Below.drew ?_) | (with_reducible refine below_drewN ?_ _) | (with_reducible refine Below.setCell ?_ ?_ _) | (with_reducible refine below_via ‹_› ?_ ?_) | (with_reducible refine below_grow ?_ ?_ _ _) | omega | (simp; done) | (simp; omega))); done) | (with_reducible apply SlA.at; (with_reducible assumption); (repeat' (first | (with_reducible exact Below.refl _ _) | (with_reducible refine Below.alloc ?_ ?_ _) | (with_reducible refine Below.drew ?_) | (with_reducible refine below_drewN ?_ _) | (with_reducible refine Below.setCell ?_ ?_ _) | (with_reducible refine below_via ‹_› ?_ ?_) | (with_reducible refine below_grow ?_ ?_ _ _) | omega | (simp; done) | (simp; omega))); done)) (by omega) HE.out).mono ?_; rintro e w8 ⟨rfl, hbw8⟩; have hzw8 := hbw8.size; (try simp at hzw8)) | fail)
    have hbw8 : Below w6.heap.size w6 w8 := by (repeat' (first | (with_reducible exact Below.refl _ _) | (with_reducible refine Below.alloc ?_ ?_ _) | (with_reducible refine Below.drew ?_) | (with_reducible refine below_drewN ?_ _) | (with_reducible refine Below.setCell ?_ ?_ _) | (with_reducible refine below_via ‹_› ?_ ?_) | (with_reducible refine below_grow ?_ ?_ _ _) | omega | (simp; done) | (simp; omega)))
    clear q0 q1 q2 q3 hbw7
    have P8 := P6.below hbw8
    have A8 := A6.at hbw8
    have O8 := O6.at hbw8
    have C8 := C6.at hbw8
    have hzz : w6.heap.size ≤ w8.heap.size := hbw8.size
    have hB8 : Below w.heap.size w w8 := hB6.trans (hbw8.mono (by omega))
    clear P6 A6 O6 C6 hB6 hbw8
    obtain ⟨adw, cpw, rfl⟩ := A8.form
    obtain ⟨ado, cpo, rfl⟩ := O8.form
    obtain ⟨adc, cpc, rfl⟩ := C8.form
    go_wp2_with fail
    refine (v_load hP (by first | (with_reducible assumption) | (with_reducible apply SlO.at; (with_reducible assumption); (repeat' (first | (with_reducible exact Below.refl _ _) | (with_reducible refine Below.alloc ?_ ?_ _) | (with_reducible refine Below.drew ?_) | (with_reducible refine below_drewN ?_ _) | (with_reducible refine Below.setCell ?_ ?_ _) | (with_reducible refine below_via ‹_› ?_ ?_) | (with_reducible refine below_grow ?_ ?_ _ _) | omega | (simp; done) | (simp; omega))); done) | (with_reducible apply SlA.at; (with_reducible assumption); (repeat' (first | (with_reducible exact Below.refl _ _) | (with_reducible refine Below.alloc ?_ ?_ _) | (with_reducible refine Below.drew ?_) | (with_reducible refine below_drewN ?_ _) | (with_reducible refine Below.setCell ?_ ?_ _) | (with_reducible refine below_via ‹_› ?_ ?_) | (with_reducible refine below_grow ?_ ?_ _ _) | omega | (simp; done) | (simp; omega))); done)) hok (by first | (with_reducible assumption) | (with_reducible apply SlO.at; (with_reducible assumption); (repeat' (first | (with_reducible exact Below.refl _ _) | (with_reducible refine Below.alloc ?_ ?_ _) | (with_reducible refine Below.drew ?_) | (with_reducible refine below_drewN ?_ _) | (with_reducible refine Below.setCell ?_ ?_ _) | (with_reducible refine below_via ‹_› ?_ ?_) | (with_reducible refine below_grow ?_ ?_ _ _) | omega | (simp; done) | (simp; omega))); done) | (with_reducible apply SlA.at; (with_reducible assumption); (repeat' (first | (with_reducible exact Below.refl _ _) | (with_reducible refine Below.alloc ?_ ?_ _) | (with_reducible refine Below.drew ?_) | (with_reducible refine below_drewN ?_ _) | (with_reducible refine Below.setCell ?_ ?_ _) | (with_reducible refine below_via ‹_› ?_ ?_) | (with_reducible refine below_grow ?_ ?_ _ _) | omega | (simp; done) | (simp; omega))); done)) (by omega)).mono ?_
    rintro e w9 ⟨rfl, hb9⟩
    have P9 := P8.below hb9
    have A9 := A8.at hb9
    have O9 := O8.at hb9
    have C9 := C8.at hb9
    have hB9 : Below w.heap.size w w9 := hB8.trans (hb9.mono (by have := hB8.size; omega))
    clear P8 A8 O8 C8 hB8 hb9 hz4
    have hcl := callsF_len hP.calls
    have hq1 : ((cs.length : Int) != (os.length : Int)) = false := by rw [hcl]; simp
    have hL := hP.full
    have HCL := hid hcl
    clear hcl
    generalize ldF ws os os.length = L at hL ⊢
    have b2 := P9.cell 2 rfl
    have bf := P9.fr
    go_wp2_with fail
    refine (c_r8Base _).mono ?_
    rintro e w10 ⟨rfl, hb10⟩
    have P10 := P9.below hb10
    have A10 := A9.at hb10
    have O10 := O9.at hb10
    have C10 := C9.at hb10
    have hB10 : Below w.heap.size w w10 := hB9.trans (hb10.mono (by have := hB9.size; omega))
    clear P9 A9 O9 C9 hB9 hb10 b2 bf hq1
    go_wp2_with fail
    go_loopw [16, 17, 18] (fun nw wt i wr => LoopV w10.heap.size w10 ws os cs nw wt i wr) (fun _ _ i _ => cs.length - (intOf i).toNat)
    case atStart => exact ⟨0, rfl, Nat.zero_le _, rfl, rfl, Bk.new w10 _ _, by (repeat' (first | (with_reducible exact Below.refl _ _) | (with_reducible refine Below.alloc ?_ ?_ _) | (with_reducible refine Below.drew ?_) | (with_reducible refine below_drewN ?_ _) | (with_reducible refine Below.setCell ?_ ?_ _) | (with_reducible refine below_via ‹_› ?_ ?_) | (with_reducible refine below_grow ?_ ?_ _ _) | omega | (simp; done) | (simp; omega)))⟩
    case round =>
      obtain ⟨j, rfl, hj, rfl, rfl, hB, hBel⟩ := hrel
      have hzr := hBel.size
      have hsl := hB.lt
      by_cases hlt : j < cs.length
      · obtain ⟨k, N, T, px, py, d, B, J⟩ := call_j hP HW.out (by decide) hlt
        have hjo : j < os.length := by have := HCL.out; omega
        obtain ⟨bc, oc, rfl, hcc, hmc, hbc, hxc⟩ := SlA.open1 (C10.at hBel) (by omega)
        obtain ⟨bo, oo, rfl, hco, hmo, hbo, hxo⟩ := SlA.open1 (O10.at hBel) (by omega)
        obtain ⟨bw, ow, rfl, hcw, hmw, hbw, hxw⟩ := SlA.open1 (A10.at hBel) (by have := J.hk; omega)
        have x0 := hxc j hlt 0 (by omega)
        have x1 := hxc j hlt 1 (by omega)
        have x2 := hxc j hlt 2 (by omega)
        have x3 := hxc j hlt 3 (by omega)
        have y0 := hxo j hjo 0 (by omega)
        have z0 := hxw k J.hk 0 (by omega)
        have z1 := hxw k J.hk 1 (by omega)
        have z2 := hxw k J.hk 2 (by omega)
        have z3 := hxw k J.hk 3 (by omega)
        have z4 := hxw k J.hk 4 (by omega)
        have z5 := hxw k J.hk 5 (by omega)
        have z6 := hxw k J.hk 6 (by omega)
        rw [J.hc hlt] at x0 x1 x2 x3
        rw [J.ho hjo] at y0
        rw [J.hd] at z0 z1 z2 z3 z4 z5 z6
        simp only [encCall, encI, encWork, List.getD_cons_zero, List.getD_cons_succ, Nat.add_zero, Nat.mul_one] at x0 x1 x2 x3 y0 z0 z1 z2 z3 z4 z5 z6
        have hkI : (k : Int) < ws.length := by have := J.hk; omega
        have hltI : (j : Int) < cs.length := by omega
        have hjoI : (j : Int) < os.length := by omega
        rw [← J.hx, ← J.hy] at hB
        rw [← J.hN]
        have Pr := P10.below hBel
        have hsp := Pr.lt
        have hsp1 : w1.heap.size < wr.heap.size + 1 := by omega
        have hsl1 : w10.heap.size < wr.heap.size + 1 := by omega
        have p0 := Pr.cell 0 rfl
        have p1 := Pr.cell 1 rfl
        have p2 := Pr.cell 2 rfl
        have p3 := Pr.cell 3 rfl
        have t0 := hB.cell 0 rfl
        have t1 := hB.cell 1 rfl
        clear hxc hxo hxw
        have hwt := wtS_bd (calls_ok hP.a1 hP.a2 HW.out hP.ord (by decide) hP.calls (by omega) (by omega)) j (by omega)
        have hos5 := HCL.out
        generalize hWt : wtS cs j = Wt at hwt ⊢
        have HWt := hid hWt
        clear hWt hos5
        obtain ⟨bd1, bd2, bd3, bd4, bd5, bd6, bd7, bd8, bd9, bd10⟩ := J.bd
        have hU := J.hU
        have hJB := J.hB
        have HJ := hid J
        clear J
        go_wp2_with fail
        go_quiet (fail)
        go_wp2_with fail
        refine (v_trav HS.out hsz HJ.out.hp HJ.out.hq HJ.out.hT).mono ?_
        rintro e w11 ⟨rfl, hb11⟩
        have hz11 := hb11.size
        simp at hz11
        have C11 : Bk w11 wr.heap.size 42 [.int .i64 k, .int .i64 (N + T), .int .i64 B, .int .i64 (B + d.fMinutes)] := (by (repeat' (first | (with_reducible exact Bk.new _ _ _) | (with_reducible refine Bk.new1 ?_; first | rfl | (simp; done) | omega) | (with_reducible assumption) | (with_reducible refine Bk.alloc ?_ _) | (with_reducible refine Bk.drew ?_) | (with_reducible refine Bk.drewN ?_ _) | (with_reducible refine Bk.other ?_ ?_ _) | (with_reducible apply Bk.drewBy; with_reducible assumption) | (with_reducible apply Bk.viaB; with_reducible assumption) | omega | (simp; done))))
        have W11 : Bk w11 (wr.heap.size + 1) 44 [.string d.fName, .int .i64 d.fAtX, .int .i64 d.fAtY, .int .i64 d.fLoad, .int .i64 d.fMinutes, .int .i64 d.fFrom, .int .i64 d.fUntil] := (by (repeat' (first | (with_reducible exact Bk.new _ _ _) | (with_reducible refine Bk.new1 ?_; first | rfl | (simp; done) | omega) | (with_reducible assumption) | (with_reducible refine Bk.alloc ?_ _) | (with_reducible refine Bk.drew ?_) | (with_reducible refine Bk.drewN ?_ _) | (with_reducible refine Bk.other ?_ ?_ _) | (with_reducible apply Bk.drewBy; with_reducible assumption) | (with_reducible apply Bk.viaB; with_reducible assumption) | omega | (simp; done))))
        have T11 : Bk w11 w10.heap.size 33 [.int .i64 px, .int .i64 py] := (by (repeat' (first | (with_reducible exact Bk.new _ _ _) | (with_reducible refine Bk.new1 ?_; first | rfl | (simp; done) | omega) | (with_reducible assumption) | (with_reducible refine Bk.alloc ?_ _) | (with_reducible refine Bk.drew ?_) | (with_reducible refine Bk.drewN ?_ _) | (with_reducible refine Bk.other ?_ ?_ _) | (with_reducible apply Bk.drewBy; with_reducible assumption) | (with_reducible apply Bk.viaB; with_reducible assumption) | omega | (simp; done))))
        have hB11 : Below w10.heap.size w10 w11 := hBel.trans (by (repeat' (first | (with_reducible exact Below.refl _ _) | (with_reducible refine Below.alloc ?_ ?_ _) | (with_reducible refine Below.drew ?_) | (with_reducible refine below_drewN ?_ _) | (with_reducible refine Below.setCell ?_ ?_ _) | (with_reducible refine below_via ‹_› ?_ ?_) | (with_reducible refine below_grow ?_ ?_ _ _) | omega | (simp; done) | (simp; omega))))
        clear hb11 x0 x1 x2 x3 y0 z0 z1 z2 z3 z4 z5 z6 p0 p1 p2 p3 t0 t1 hB hBel Pr
        have c0 := C11.cell 0 rfl
        have c1 := C11.cell 1 rfl
        have c2 := C11.cell 2 rfl
        have c3 := C11.cell 3 rfl
        have d1 := W11.cell 1 rfl
        have d2 := W11.cell 2 rfl
        have d4 := W11.cell 4 rfl
        have d5 := W11.cell 5 rfl
        have d6 := W11.cell 6 rfl
        have t0 := T11.cell 0 rfl
        have t1 := T11.cell 1 rfl
        have tf := T11.fr
        rcases hJB with ⟨rfl, hF⟩ | ⟨rfl, hF⟩
        all_goals
          go_wp2_with fail
          go_roundw
          case rel => exact ⟨j + 1, by go_num, by omega, by rw [HJ.out.nextN], by rw [HJ.out.nextW, HWt.out]; try exact congrArg (Value.int IntKind.i64) (by omega), by rw [HJ.out.nextX, HJ.out.nextY]; exact (T11.set 0 _).set 1 _, (hB11.setCell (Nat.le_refl _) _).setCell (Nat.le_refl _) _⟩
          case measure => simp [intOf]; omega
      · have hjl : j = cs.length := by omega
        have hjo : j = os.length := by rw [hjl]; exact HCL.out
        have eN : lpt 0 (cs.take j) = lpt 0 cs := by rw [hjl, List.take_length]
        have eX : lpx ws 20000 (os.take j) = lpx ws 20000 os := by rw [hjo, List.take_length]
        have eY : lpy ws 20000 (os.take j) = lpy ws 20000 os := by rw [hjo, List.take_length]
        have eW : wtS cs j = waitS cs := by rw [hjl]; exact wtS_all (calls_ok hP.a1 hP.a2 HW.out hP.ord (by decide) hP.calls (by omega) (by omega))
        have hNb := lpt_bd HW.out hP.ord hP.calls (by omega) (by omega) cs.length (Nat.le_refl _)
        have hpq := lp_point HW.out hP.ord (px := 20000) (py := 20000) (by decide) os.length (Nat.le_refl _)
        rw [List.take_length] at hNb hpq
        have hev := hP.vev
        rw [HE.out] at hev
        have htb := travelT_bd hP.a1 hP.a2 hpq (show pointB 20000 20000 = true by decide)
        rw [eX, eY] at hB
        rw [eN, eW]
        obtain ⟨T, hT⟩ : ∃ z, z = travelT a (lpx ws 20000 os) (lpy ws 20000 os) 20000 20000 := ⟨_, rfl⟩
        rw [← hT] at hev htb
        generalize lpx ws 20000 os = px at *
        generalize lpy ws 20000 os = py at *
        generalize lpt 0 cs = N at *
        subst hev
        have HT := hid hT
        have hltI : ¬ (j : Int) < cs.length := by omega
        clear hT eN eX eY eW hjl hjo
        have Pr := P10.below hBel
        have Ar := A10.at hBel
        have Or := O10.at hBel
        have Cr := C10.at hBel
        have hBr : Below w.heap.size w wr := hB10.trans (hBel.mono (by have := hB10.size; omega))
        clear P10 A10 O10 C10 hB10 hBel
        go_wp2_with fail
        have u0 := bk_since hB (i := 0) rfl
        have u1 := bk_since hB (i := 1) rfl
        have q0 := bk_since Pr (i := 0) rfl
        have q1 := bk_since Pr (i := 1) rfl
        have q2 := bk_since Pr (i := 2) rfl
        have q3 := bk_since Pr (i := 3) rfl
        go_region_held3 (fun w' => Since wr w') ((refine since_of ?_; (repeat' (first | (with_reducible exact Below.refl _ _) | (with_reducible refine Below.alloc ?_ ?_ _) | (with_reducible refine Below.drew ?_) | (with_reducible refine below_drewN ?_ _) | (with_reducible refine Below.setCell ?_ ?_ _) | (with_reducible refine below_via ‹_› ?_ ?_) | (with_reducible refine below_grow ?_ ?_ _ _) | omega | (simp; done) | (simp; omega))))) (first | (go_at_call 19; refine (c_r8Base _).mono ?_; rintro e w11 ⟨rfl, hbw11⟩; have hzw11 := hbw11.size; (try simp at hzw11)) | (go_at_call 23; refine (v_trav HS.out hsz hpq (by decide) HT.out).mono ?_; rintro e w12 ⟨rfl, hbw12⟩; have hzw12 := hbw12.size; (try simp at hzw12)) | fail)
        have hbw12 : Below wr.heap.size wr w12 := by (repeat' (first | (with_reducible exact Below.refl _ _) | (with_reducible refine Below.alloc ?_ ?_ _) | (with_reducible refine Below.drew ?_) | (with_reducible refine below_drewN ?_ _) | (with_reducible refine Below.setCell ?_ ?_ _) | (with_reducible refine below_via ‹_› ?_ ?_) | (with_reducible refine below_grow ?_ ?_ _ _) | omega | (simp; done) | (simp; omega)))
        clear q0 q1 q2 q3 hbw11
        clear u0 u1
        have P12 := Pr.below hbw12
        have A12 := Ar.at hbw12
        have O12 := Or.at hbw12
        have C12 := Cr.at hbw12
        have hzz : wr.heap.size ≤ w12.heap.size := hbw12.size
        have hB12 : Below w.heap.size w w12 := hBr.trans (hbw12.mono (by have := hBr.size; omega))
        clear Pr Ar Or Cr hBr hbw12
        have hwn : cs.length ≤ 1048576 := by have := HCL.out; omega
        go_wp2_with fail
        refine (c_impl_WaitOf _ cs _ (by first | (with_reducible assumption) | (with_reducible apply SlO.at; (with_reducible assumption); (repeat' (first | (with_reducible exact Below.refl _ _) | (with_reducible refine Below.alloc ?_ ?_ _) | (with_reducible refine Below.drew ?_) | (with_reducible refine below_drewN ?_ _) | (with_reducible refine Below.setCell ?_ ?_ _) | (with_reducible refine below_via ‹_› ?_ ?_) | (with_reducible refine below_grow ?_ ?_ _ _) | omega | (simp; done) | (simp; omega))); done) | (with_reducible apply SlA.at; (with_reducible assumption); (repeat' (first | (with_reducible exact Below.refl _ _) | (with_reducible refine Below.alloc ?_ ?_ _) | (with_reducible refine Below.drew ?_) | (with_reducible refine below_drewN ?_ _) | (with_reducible refine Below.setCell ?_ ?_ _) | (with_reducible refine below_via ‹_› ?_ ?_) | (with_reducible refine below_grow ?_ ?_ _ _) | omega | (simp; done) | (simp; omega))); done)) hwn).mono ?_
        rintro e w13 ⟨rfl, hb13⟩
        have P13 := P12.below hb13
        have A13 := A12.at hb13
        have O13 := O12.at hb13
        have hB13 : Below w.heap.size w w13 := hB12.trans (hb13.mono (by have := hB12.size; omega))
        clear P12 A12 O12 C12 hB12 hb13
        generalize waitS cs = Wt
        go_wp2_with fail
        obtain ⟨F, hF⟩ : ∃ z, lateV s a b c 20000 20000 ws os = z := ⟨_, rfl⟩
        have f0 := hP.lat0
        have f1 := hP.lat1
        have f2 := hP.last
        have f3 := hP.past
        rw [hF] at f0 f1 f2 f3
        have HF := hid hF
        have F2 := hid f2
        have F3 := hid f3
        clear hF f2 f3
        have q0 := bk_since P13 (i := 0) rfl
        have q1 := bk_since P13 (i := 1) rfl
        have q2 := bk_since P13 (i := 2) rfl
        have q3 := bk_since P13 (i := 3) rfl
        go_region_held3 (fun w' => Since w13 w') ((refine since_of ?_; (repeat' (first | (with_reducible exact Below.refl _ _) | (with_reducible refine Below.alloc ?_ ?_ _) | (with_reducible refine Below.drew ?_) | (with_reducible refine below_drewN ?_ _) | (with_reducible refine Below.setCell ?_ ?_ _) | (with_reducible refine below_via ‹_› ?_ ?_) | (with_reducible refine below_grow ?_ ?_ _ _) | omega | (simp; done) | (simp; omega))))) (first | (go_at_call 19; refine (c_r8Base _).mono ?_; rintro e w14 ⟨rfl, hbw14⟩; have hzw14 := hbw14.size; (try simp at hzw14)) | (go_at_call 25; refine (v_late hP hsz (by first | (with_reducible assumption) | (with_reducible apply SlO.at; (with_reducible assumption); (repeat' (first | (with_reducible exact Below.refl _ _) | (with_reducible refine Below.alloc ?_ ?_ _) | (with_reducible refine Below.drew ?_) | (with_reducible refine below_drewN ?_ _) | (with_reducible refine Below.setCell ?_ ?_ _) | (with_reducible refine below_via ‹_› ?_ ?_) | (with_reducible refine below_grow ?_ ?_ _ _) | omega | (simp; done) | (simp; omega))); done) | (with_reducible apply SlA.at; (with_reducible assumption); (repeat' (first | (with_reducible exact Below.refl _ _) | (with_reducible refine Below.alloc ?_ ?_ _) | (with_reducible refine Below.drew ?_) | (with_reducible refine below_drewN ?_ _) | (with_reducible refine Below.setCell ?_ ?_ _) | (with_reducible refine below_via ‹_› ?_ ?_) | (with_reducible refine below_grow ?_ ?_ _ _) | omega | (simp; done) | (simp; omega))); done)) hok (by first | (with_reducible assumption) | (with_reducible apply SlO.at; (with_reducible assumption); (repeat' (first | (with_reducible exact Below.refl _ _) | (with_reducible refine Below.alloc ?_ ?_ _) | (with_reducible refine Below.drew ?_) | (with_reducible refine below_drewN ?_ _) | (with_reducible refine Below.setCell ?_ ?_ _) | (with_reducible refine below_via ‹_› ?_ ?_) | (with_reducible refine below_grow ?_ ?_ _ _) | omega | (simp; done) | (simp; omega))); done) | (with_reducible apply SlA.at; (with_reducible assumption); (repeat' (first | (with_reducible exact Below.refl _ _) | (with_reducible refine Below.alloc ?_ ?_ _) | (with_reducible refine Below.drew ?_) | (with_reducible refine below_drewN ?_ _) | (with_reducible refine Below.setCell ?_ ?_ _) | (with_reducible refine below_via ‹_› ?_ ?_) | (with_reducible refine below_grow ?_ ?_ _ _) | omega | (simp; done) | (simp; omega))); done)) (by omega) HF.out).mono ?_; rintro e w15 ⟨rfl, hbw15⟩; have hzw15 := hbw15.size; (try simp at hzw15)) | fail)
        have hbw15 : Below w13.heap.size w13 w15 := by (repeat' (first | (with_reducible exact Below.refl _ _) | (with_reducible refine Below.alloc ?_ ?_ _) | (with_reducible refine Below.drew ?_) | (with_reducible refine below_drewN ?_ _) | (with_reducible refine Below.setCell ?_ ?_ _) | (with_reducible refine below_via ‹_› ?_ ?_) | (with_reducible refine below_grow ?_ ?_ _ _) | omega | (simp; done) | (simp; omega)))
        clear q0 q1 q2 q3 hbw14
        have P15 := P13.below hbw15
        have A15 := A13.at hbw15
        have O15 := O13.at hbw15
        have hzz : w13.heap.size ≤ w15.heap.size := hbw15.size
        have hB15 : Below w.heap.size w w15 := hB13.trans (hbw15.mono (by have := hB13.size; omega))
        clear P13 A13 O13 hB13 hbw15
        go_wp2_with fail
        have q0 := bk_since P15 (i := 0) rfl
        have q1 := bk_since P15 (i := 1) rfl
        have q2 := bk_since P15 (i := 2) rfl
        have q3 := bk_since P15 (i := 3) rfl
        go_region_held3 (fun w' => Since w15 w') ((refine since_of ?_; (repeat' (first | (with_reducible exact Below.refl _ _) | (with_reducible refine Below.alloc ?_ ?_ _) | (with_reducible refine Below.drew ?_) | (with_reducible refine below_drewN ?_ _) | (with_reducible refine Below.setCell ?_ ?_ _) | (with_reducible refine below_via ‹_› ?_ ?_) | (with_reducible refine below_grow ?_ ?_ _ _) | omega | (simp; done) | (simp; omega))))) (first | (go_at_call 19; refine (c_r8Base _).mono ?_; rintro e w16 ⟨rfl, hbw16⟩; have hzw16 := hbw16.size; (try simp at hzw16)) | (go_at_call 20; refine (v_at hP hsz (by first | (with_reducible assumption) | (with_reducible apply SlO.at; (with_reducible assumption); (repeat' (first | (with_reducible exact Below.refl _ _) | (with_reducible refine Below.alloc ?_ ?_ _) | (with_reducible refine Below.drew ?_) | (with_reducible refine below_drewN ?_ _) | (with_reducible refine Below.setCell ?_ ?_ _) | (with_reducible refine below_via ‹_› ?_ ?_) | (with_reducible refine below_grow ?_ ?_ _ _) | omega | (simp; done) | (simp; omega))); done) | (with_reducible apply SlA.at; (with_reducible assumption); (repeat' (first | (with_reducible exact Below.refl _ _) | (with_reducible refine Below.alloc ?_ ?_ _) | (with_reducible refine Below.drew ?_) | (with_reducible refine below_drewN ?_ _) | (with_reducible refine Below.setCell ?_ ?_ _) | (with_reducible refine below_via ‹_› ?_ ?_) | (with_reducible refine below_grow ?_ ?_ _ _) | omega | (simp; done) | (simp; omega))); done)) hok (by first | (with_reducible assumption) | (with_reducible apply SlO.at; (with_reducible assumption); (repeat' (first | (with_reducible exact Below.refl _ _) | (with_reducible refine Below.alloc ?_ ?_ _) | (with_reducible refine Below.drew ?_) | (with_reducible refine below_drewN ?_ _) | (with_reducible refine Below.setCell ?_ ?_ _) | (with_reducible refine below_via ‹_› ?_ ?_) | (with_reducible refine below_grow ?_ ?_ _ _) | omega | (simp; done) | (simp; omega))); done) | (with_reducible apply SlA.at; (with_reducible assumption); (repeat' (first | (with_reducible exact Below.refl _ _) | (with_reducible refine Below.alloc ?_ ?_ _) | (with_reducible refine Below.drew ?_) | (with_reducible refine below_drewN ?_ _) | (with_reducible refine Below.setCell ?_ ?_ _) | (with_reducible refine below_via ‹_› ?_ ?_) | (with_reducible refine below_grow ?_ ?_ _ _) | omega | (simp; done) | (simp; omega))); done)) (by omega) F 0 F2.out).mono ?_; rintro e w17 ⟨x1, rfl, hbw17⟩; have hzw17 := hbw17.size; (try simp at hzw17)) | fail)
        have hbw17 : Below w15.heap.size w15 w17 := by (repeat' (first | (with_reducible exact Below.refl _ _) | (with_reducible refine Below.alloc ?_ ?_ _) | (with_reducible refine Below.drew ?_) | (with_reducible refine below_drewN ?_ _) | (with_reducible refine Below.setCell ?_ ?_ _) | (with_reducible refine below_via ‹_› ?_ ?_) | (with_reducible refine below_grow ?_ ?_ _ _) | omega | (simp; done) | (simp; omega)))
        clear q0 q1 q2 q3 hbw16
        have P17 := P15.below hbw17
        have A17 := A15.at hbw17
        have O17 := O15.at hbw17
        have hzz : w15.heap.size ≤ w17.heap.size := hbw17.size
        have hB17 : Below w.heap.size w w17 := hB15.trans (hbw17.mono (by have := hB15.size; omega))
        clear P15 A15 O15 hB15 hbw17
        go_wp2_with fail
        have hw1 : IntKind.i64.wrap (F + 1) = F + 1 := IntWalk.i64_in _ (by omega)
        obtain ⟨K, hK⟩ : ∃ z, voC s a b c 20000 20000 ws os (F + 1) = z := ⟨_, rfl⟩
        have HK := hid hK
        clear hK
        have q0 := bk_since P17 (i := 0) rfl
        have q1 := bk_since P17 (i := 1) rfl
        have q2 := bk_since P17 (i := 2) rfl
        have q3 := bk_since P17 (i := 3) rfl
        go_region_held3 (fun w' => Since w17 w') ((refine since_of ?_; (repeat' (first | (with_reducible exact Below.refl _ _) | (with_reducible refine Below.alloc ?_ ?_ _) | (with_reducible refine Below.drew ?_) | (with_reducible refine below_drewN ?_ _) | (with_reducible refine Below.setCell ?_ ?_ _) | (with_reducible refine below_via ‹_› ?_ ?_) | (with_reducible refine below_grow ?_ ?_ _ _) | omega | (simp; done) | (simp; omega))))) (first | (go_at_call 19; refine (c_r8Base _).mono ?_; rintro e w18 ⟨rfl, hbw18⟩; have hzw18 := hbw18.size; (try simp at hzw18)) | (go_at_call 20; refine (v_at hP hsz (by first | (with_reducible assumption) | (with_reducible apply SlO.at; (with_reducible assumption); (repeat' (first | (with_reducible exact Below.refl _ _) | (with_reducible refine Below.alloc ?_ ?_ _) | (with_reducible refine Below.drew ?_) | (with_reducible refine below_drewN ?_ _) | (with_reducible refine Below.setCell ?_ ?_ _) | (with_reducible refine below_via ‹_› ?_ ?_) | (with_reducible refine below_grow ?_ ?_ _ _) | omega | (simp; done) | (simp; omega))); done) | (with_reducible apply SlA.at; (with_reducible assumption); (repeat' (first | (with_reducible exact Below.refl _ _) | (with_reducible refine Below.alloc ?_ ?_ _) | (with_reducible refine Below.drew ?_) | (with_reducible refine below_drewN ?_ _) | (with_reducible refine Below.setCell ?_ ?_ _) | (with_reducible refine below_via ‹_› ?_ ?_) | (with_reducible refine below_grow ?_ ?_ _ _) | omega | (simp; done) | (simp; omega))); done)) hok (by first | (with_reducible assumption) | (with_reducible apply SlO.at; (with_reducible assumption); (repeat' (first | (with_reducible exact Below.refl _ _) | (with_reducible refine Below.alloc ?_ ?_ _) | (with_reducible refine Below.drew ?_) | (with_reducible refine below_drewN ?_ _) | (with_reducible refine Below.setCell ?_ ?_ _) | (with_reducible refine below_via ‹_› ?_ ?_) | (with_reducible refine below_grow ?_ ?_ _ _) | omega | (simp; done) | (simp; omega))); done) | (with_reducible apply SlA.at; (with_reducible assumption); (repeat' (first | (with_reducible exact Below.refl _ _) | (with_reducible refine Below.alloc ?_ ?_ _) | (with_reducible refine Below.drew ?_) | (with_reducible refine below_drewN ?_ _) | (with_reducible refine Below.setCell ?_ ?_ _) | (with_reducible refine below_via ‹_› ?_ ?_) | (with_reducible refine below_grow ?_ ?_ _ _) | omega | (simp; done) | (simp; omega))); done)) (by omega) (F + 1) K HK.out).mono ?_; rintro e w19 ⟨x2, rfl, hbw19⟩; have hzw19 := hbw19.size; (try simp at hzw19)) | fail)
        have hbw19 : Below w17.heap.size w17 w19 := by (repeat' (first | (with_reducible exact Below.refl _ _) | (with_reducible refine Below.alloc ?_ ?_ _) | (with_reducible refine Below.drew ?_) | (with_reducible refine below_drewN ?_ _) | (with_reducible refine Below.setCell ?_ ?_ _) | (with_reducible refine below_via ‹_› ?_ ?_) | (with_reducible refine below_grow ?_ ?_ _ _) | omega | (simp; done) | (simp; omega)))
        clear q0 q1 q2 q3 hbw18
        have hB19 : Below w.heap.size w w19 := hB17.trans (hbw19.mono (by have := hB17.size; omega))
        clear hw1
        by_cases hF4 : F < 4320
        · have hK6 : K = 6 := by rw [← HK.out]; exact F3.out hF4
          subst hK6
          go_wp2_with fail
          go_ret
          exact ⟨rfl, hB19⟩
        · have hF5 : F = 4320 := by omega
          subst hF5
          go_wp2_with fail
          go_ret
          exact ⟨rfl, hB19⟩

open Go.ChangeShapes Go.WideShapes Go.ChangeAt
theorem own : ownKnob Try.prog.godebug = none := by kernel_rfl
theorem laidOut : laidOutB Try.prog = true := by kernel_rfl

theorem lifted (os : Os) (started : os.Started) (H : Type) (enc : TypeId × Value → H) :
    ReturnsInHanded {} Try.checked os 3 .any (Rows.fnVoyageSpec.pre6 enc Try.prog Try.f3 Rows.fnVoyageRow.domain false) (Rows.fnVoyageSpec.post enc Try.prog Try.f3 false true false false) := by
  refine returnsInHanded_of_change (C := Try.checked) own started (by kernel_rfl) Try.func3
    (ChangeSpec.witness6 (enc := enc) (C := Try.checked) false ⟨#[], #[.slice none 0 0, .slice none 0 0], []⟩ 8 (by kernel_rfl) (by kernel_rfl) (by kernel_rfl) (by kernel_rfl)) ?_
  intro W base args ds gs before hval0 hW hcnd _
  have hval : ∀ (j : Nat) t v, Try.f3.params[j]? = some t → args[j]? = some v → Value.okWide Try.prog W .any base t v := hval0
  have hW' := hW
  obtain ⟨p, q, hA0, hV, rfl, hfz, hnd⟩ := hW
  have hA : DataW.TrodAll enc Try.prog W 0 (fun _ => true) true Try.f3.params.toList args.toList ds p := hA0
  rw [Try.params3] at hA hval
  obtain ⟨u0, vs0, e0, ds0, p0, q0, hargs, rfl, rfl, t0, r0⟩ := trodAll_cons hA
  obtain ⟨u1, vs1, e1, ds1, p1, q1, rfl, rfl, rfl, t1, r1⟩ := trodAll_cons r0
  obtain ⟨rfl, rfl, rfl⟩ := trodAll_nil r1
  obtain rfl : args = #[u0, u1] := by cases args; simp_all
  obtain ⟨rfl, rfl⟩ := trodVars_none hV
  have t0' := t0
  have lt0 : ∀ x ∈ p0, x.block < W.heap.size := by obtain ⟨m, hm⟩ := t0'; exact DataW.trod_lt m _ _ _ hm
  obtain ⟨xs0, h0, k0⟩ := open_U8S (hval 0 22 u0 rfl rfl) t0
  have t1' := t1
  have lt1 : ∀ x ∈ p1, x.block < W.heap.size := by obtain ⟨m, hm⟩ := t1'; exact DataW.trod_lt m _ _ _ hm
  obtain ⟨xs1, h1, k1⟩ := open_U8S (hval 1 22 u1 rfl rfl) t1
  clear hA0 hval0
  refine (walk u0 xs0 u1 xs1 W h0 k0 h1 k1).mono fun e W' ⟨he, bel⟩ => ?_
  subst he
  exact ⟨_, rfl, _, _, _, [], _, [], hW', trodAll_mk1 (shut_bool Try.underlying4 _), (trodAll_cons_mk (Below.trod laidOut (by kernel_rfl) (of_decide_eq_true (by kernel_rfl)) t0' bel lt0) (trodAll_cons_mk (Below.trod laidOut (by kernel_rfl) (of_decide_eq_true (by kernel_rfl)) t1' bel lt1) trodAll_mk0)), rfl, bel.frame _, fun h => by cases h⟩

theorem proved : Rows.FnVoyageSaid :=
  OpenClaim.holds_of_wide 3 Try.f3 rfl rfl rfl rfl rfl rfl rfl ⟨rfl, rfl, rfl, rfl, rfl⟩ rfl rfl rfl rfl rfl (by kernel_rfl) Try.func3 (by kernel_rfl)
    (of_decide_eq_true (by kernel_rfl)) (by unfold Func.isWrapper; first | (rw [if_pos (by decide +kernel)]; kernel_rfl) | (rw [if_neg (by decide +kernel)]; exact ⟨rfl, rfl⟩))
    (fun os started H enc _ => lifted os started H enc)
#print axioms proved
end Go.Proofs.Ytmolcfagmiecjaa.lawFnVoyage
