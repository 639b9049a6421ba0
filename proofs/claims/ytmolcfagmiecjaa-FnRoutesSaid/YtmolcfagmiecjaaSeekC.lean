/- The program's searches for voyages: what looks at an order; the first voyage, the number of voyages, the most works. -/
import Derived.Test.YtmolcfagmiecjaaSeekI
namespace Go.Proofs.Ytmolcfagmiecjaa
open Go.RowKit Go.Sort
set_option maxRecDepth 100000

theorem Kept.drop {M : Nat → Prop} {a b c : World} {g : Nat} (h : Below a.heap.size a b) (k : Kept (fun k => M k ∨ k = g) b c) (hg : a.heap.size ≤ g) : Kept M a c :=
  ⟨k.os.trans h.os, k.tape.trans h.tape, k.output.trans h.output, Nat.le_trans h.size k.size, fun i hi hm => (k.block i (Nat.lt_of_lt_of_le hi h.size) (fun e => e.elim hm (fun e => by omega))).trans (h.block i hi)⟩
/-- the answer of a search -/
def seekF {A : Type} (reach : A → List Int → A × Bool) (a b x y : Int) (ws : List WorkD) (t q : Int) (a0 : A) : Res A := goF reach (allT a b x y ws t) q.toNat a0
def rtC (s : ByteArray) (a b c x y : Int) (ws : List WorkD) (t q code : Int) : Int := if askN s a b c x y ws t = 0 then (if inB q 1 20000 then (if code = 5 then 5 else 0) else 2) else askN s a b c x y ws t
def RoutesR {A : Type} (M : Nat → Prop) (R : Nat → World → A → Prop) (w w' : World) (code : Int) (ans : A) (e : Ending) : Prop := e = .returned (.int .i64 code) ∧ Kept M w w' ∧ (code = 0 → ∃ g, R g w' ans)
set_option maxHeartbeats 2000000 in
theorem c_routes {A : Type} (M : Nat → Prop) (B fc : Nat) (caps : Array Value) (reach : A → List Int → A × Bool) (R : Nat → World → A → Prop) (s : ByteArray) (a b c x y t q : Int) (adl : Option Addr) (cpl : Nat) (ws : List WorkD) (w : World) (a0 : A)
    (hs : s.size ≤ maxLen) (h : SlA w 0 7 encWork (.slice adl ws.length cpl) ws) (hok : ∀ x ∈ ws, okWork x) (hfar : 0 < ws.length → ∀ b', (Value.slice adl ws.length cpl).ownBlock = some b' → b' < B) (hB : B ≤ w.heap.size) (hM : ∀ k, M k → B ≤ k ∧ k < w.heap.size)
    (hL : ∀ g, ¬ M g → Looks M g B ws.length (FineO a b x y t ws) fc caps reach (R g)) (hR : ∀ g w', Below w.heap.size w w' → w.heap.size ≤ g → R g w' a0) :
    Calls Try.prog 79 #[.agg #[.string s, .int .i64 a, .int .i64 b, .int .i64 c], .agg #[.int .i64 x, .int .i64 y], .slice adl ws.length cpl, .int .i64 t, .int .i64 q, .func (.func fc) #[] caps] w fun e w' =>
      RoutesR M R w w' (rtC s a b c x y ws t q (seekF reach a b x y ws t q a0).code) (seekF reach a b x y ws t q a0).ans e := by
  have hnil := nilI w
  have HL := hid hL
  have HM := hid hM
  have HR := hid hR
  have HFar := hid hfar
  clear hL hM hR hfar
  by_cases h0 : askC s a b c x y ws [] t = 0
  case neg =>
    have hne : (askC s a b c x y ws [] t != 0) = true := by simpa using h0
    have HC := hid (show ∀ z, rtC s a b c x y ws t q z = askC s a b c x y ws [] t from fun z => by unfold rtC askN; rw [if_neg h0])
    have H0 := hid h0
    clear h0
    go_enter Try.func79, Try.ntmps79
    go_wp2_with (first | (go_at_call 65; refine (c_voyageCode _ _ _ _ _ _ _ _ _ _ _ _ (by assumption) (by first | (with_reducible assumption) | (with_reducible apply SlO.at; (with_reducible assumption); (repeat' (first | (with_reducible exact Below.refl _ _) | (with_reducible refine Below.alloc ?_ ?_ _) | (with_reducible refine Below.drew ?_) | (with_reducible refine below_drewN ?_ _) | (with_reducible refine Below.setCell ?_ ?_ _) | (with_reducible refine below_via ‹_› ?_ ?_) | (with_reducible refine below_grow ?_ ?_ _ _) | omega | (simp; done) | (simp; omega))); done) | (with_reducible apply SlA.at; (with_reducible assumption); (repeat' (first | (with_reducible exact Below.refl _ _) | (with_reducible refine Below.alloc ?_ ?_ _) | (with_reducible refine Below.drew ?_) | (with_reducible refine below_drewN ?_ _) | (with_reducible refine Below.setCell ?_ ?_ _) | (with_reducible refine below_via ‹_› ?_ ?_) | (with_reducible refine below_grow ?_ ?_ _ _) | omega | (simp; done) | (simp; omega))); done)) (by assumption) (by first | (with_reducible assumption) | (with_reducible apply SlO.at; (with_reducible assumption); (repeat' (first | (with_reducible exact Below.refl _ _) | (with_reducible refine Below.alloc ?_ ?_ _) | (with_reducible refine Below.drew ?_) | (with_reducible refine below_drewN ?_ _) | (with_reducible refine Below.setCell ?_ ?_ _) | (with_reducible refine below_via ‹_› ?_ ?_) | (with_reducible refine below_grow ?_ ?_ _ _) | omega | (simp; done) | (simp; omega))); done) | (with_reducible apply SlA.at; (with_reducible assumption); (repeat' (first | (with_reducible exact Below.refl _ _) | (with_reducible refine Below.alloc ?_ ?_ _) | (with_reducible refine Below.drew ?_) | (with_reducible refine below_drewN ?_ _) | (with_reducible refine Below.setCell ?_ ?_ _) | (with_reducible refine below_via ‹_› ?_ ?_) | (with_reducible refine below_grow ?_ ?_ _ _) | omega | (simp; done) | (simp; omega))); done))).mono ?_; rintro e w1 ⟨rfl, hb⟩; obtain ⟨hc, hf⟩ := bcell hb; have hz := hb.size; (try simp at hz); (try have hz0 : ∀ b, b < w.heap.size → b < w1.heap.size := fun b h => by omega); (try have hz1 : w.heap.size < w1.heap.size := by omega); (try have hz2 : w.heap.size + 1 < w1.heap.size := by omega); (try have hz3 : w.heap.size + 2 < w1.heap.size := by omega)))
    go_ret
    rw [HC.out]
    exact ⟨rfl, Kept.of (by (repeat' (first | (with_reducible exact Below.refl _ _) | (with_reducible refine Below.alloc ?_ ?_ _) | (with_reducible refine Below.drew ?_) | (with_reducible refine below_drewN ?_ _) | (with_reducible refine Below.setCell ?_ ?_ _) | (with_reducible refine below_via ‹_› ?_ ?_) | (with_reducible refine below_grow ?_ ?_ _ _) | omega | (simp; done) | (simp; omega)))), fun h => absurd h H0.out⟩
  obtain ⟨e1, e2, e3, hw, e5, e6, -⟩ := askC_ship h0
  obtain ⟨l1, l2⟩ : 0 ≤ b ∧ b ≤ 1000 := by have := shipB_true (askC_load h0).1; omega
  have H0 := hid h0
  cases hq : inB q 1 20000
  · have HC := hid (show ∀ z, rtC s a b c x y ws t q z = 2 from fun z => by unfold rtC askN; rw [if_pos h0, hq]; rfl)
    clear h0
    go_enter Try.func79, Try.ntmps79
    go_wp2_with (first | (go_at_call 65; refine (c_voyageCode _ _ _ _ _ _ _ _ _ _ _ _ (by assumption) (by first | (with_reducible assumption) | (with_reducible apply SlO.at; (with_reducible assumption); (repeat' (first | (with_reducible exact Below.refl _ _) | (with_reducible refine Below.alloc ?_ ?_ _) | (with_reducible refine Below.drew ?_) | (with_reducible refine below_drewN ?_ _) | (with_reducible refine Below.setCell ?_ ?_ _) | (with_reducible refine below_via ‹_› ?_ ?_) | (with_reducible refine below_grow ?_ ?_ _ _) | omega | (simp; done) | (simp; omega))); done) | (with_reducible apply SlA.at; (with_reducible assumption); (repeat' (first | (with_reducible exact Below.refl _ _) | (with_reducible refine Below.alloc ?_ ?_ _) | (with_reducible refine Below.drew ?_) | (with_reducible refine below_drewN ?_ _) | (with_reducible refine Below.setCell ?_ ?_ _) | (with_reducible refine below_via ‹_› ?_ ?_) | (with_reducible refine below_grow ?_ ?_ _ _) | omega | (simp; done) | (simp; omega))); done)) (by assumption) (by first | (with_reducible assumption) | (with_reducible apply SlO.at; (with_reducible assumption); (repeat' (first | (with_reducible exact Below.refl _ _) | (with_reducible refine Below.alloc ?_ ?_ _) | (with_reducible refine Below.drew ?_) | (with_reducible refine below_drewN ?_ _) | (with_reducible refine Below.setCell ?_ ?_ _) | (with_reducible refine below_via ‹_› ?_ ?_) | (with_reducible refine below_grow ?_ ?_ _ _) | omega | (simp; done) | (simp; omega))); done) | (with_reducible apply SlA.at; (with_reducible assumption); (repeat' (first | (with_reducible exact Below.refl _ _) | (with_reducible refine Below.alloc ?_ ?_ _) | (with_reducible refine Below.drew ?_) | (with_reducible refine below_drewN ?_ _) | (with_reducible refine Below.setCell ?_ ?_ _) | (with_reducible refine below_via ‹_› ?_ ?_) | (with_reducible refine below_grow ?_ ?_ _ _) | omega | (simp; done) | (simp; omega))); done))).mono ?_; rintro e w1 ⟨rfl, hb⟩; obtain ⟨hc, hf⟩ := bcell hb; have hz := hb.size; (try simp at hz); (try have hz0 : ∀ b, b < w.heap.size → b < w1.heap.size := fun b h => by omega); (try have hz1 : w.heap.size < w1.heap.size := by omega); (try have hz2 : w.heap.size + 1 < w1.heap.size := by omega); (try have hz3 : w.heap.size + 2 < w1.heap.size := by omega); rw [H0.out]) | (go_at_call 73; refine (c_within _ _ _ _).mono ?_; rintro e w' ⟨rfl, rfl⟩))
    go_ret
    rw [HC.out]
    exact ⟨rfl, Kept.of (by (repeat' (first | (with_reducible exact Below.refl _ _) | (with_reducible refine Below.alloc ?_ ?_ _) | (with_reducible refine Below.drew ?_) | (with_reducible refine below_drewN ?_ _) | (with_reducible refine Below.setCell ?_ ?_ _) | (with_reducible refine below_via ‹_› ?_ ?_) | (with_reducible refine below_grow ?_ ?_ _ _) | omega | (simp; done) | (simp; omega)))), fun h => by cases h⟩
  have hqb := inB_true hq
  have HC := hid (show ∀ z, rtC s a b c x y ws t q z = if z = 5 then 5 else 0 from fun z => by unfold rtC askN; rw [if_pos h0, hq]; rfl)
  obtain ⟨n, hn⟩ : ∃ n : Nat, q = (n : Int) := ⟨q.toNat, by omega⟩
  have hn2 : n ≤ 20000 := by omega
  have HN := hid (show q.toNat = n by omega)
  subst hn
  have H := h
  have hF0 : FineO a b x y t ws [] := ⟨_, _, _, _, GreedS.start l1⟩
  clear h h0 hqb
  go_enter Try.func79, Try.ntmps79
  go_wp2_with (first | (go_at_call 65; refine (c_voyageCode _ _ _ _ _ _ _ _ _ _ _ _ (by assumption) (by first | (with_reducible assumption) | (with_reducible apply SlO.at; (with_reducible assumption); (repeat' (first | (with_reducible exact Below.refl _ _) | (with_reducible refine Below.alloc ?_ ?_ _) | (with_reducible refine Below.drew ?_) | (with_reducible refine below_drewN ?_ _) | (with_reducible refine Below.setCell ?_ ?_ _) | (with_reducible refine below_via ‹_› ?_ ?_) | (with_reducible refine below_grow ?_ ?_ _ _) | omega | (simp; done) | (simp; omega))); done) | (with_reducible apply SlA.at; (with_reducible assumption); (repeat' (first | (with_reducible exact Below.refl _ _) | (with_reducible refine Below.alloc ?_ ?_ _) | (with_reducible refine Below.drew ?_) | (with_reducible refine below_drewN ?_ _) | (with_reducible refine Below.setCell ?_ ?_ _) | (with_reducible refine below_via ‹_› ?_ ?_) | (with_reducible refine below_grow ?_ ?_ _ _) | omega | (simp; done) | (simp; omega))); done)) (by assumption) (by first | (with_reducible assumption) | (with_reducible apply SlO.at; (with_reducible assumption); (repeat' (first | (with_reducible exact Below.refl _ _) | (with_reducible refine Below.alloc ?_ ?_ _) | (with_reducible refine Below.drew ?_) | (with_reducible refine below_drewN ?_ _) | (with_reducible refine Below.setCell ?_ ?_ _) | (with_reducible refine below_via ‹_› ?_ ?_) | (with_reducible refine below_grow ?_ ?_ _ _) | omega | (simp; done) | (simp; omega))); done) | (with_reducible apply SlA.at; (with_reducible assumption); (repeat' (first | (with_reducible exact Below.refl _ _) | (with_reducible refine Below.alloc ?_ ?_ _) | (with_reducible refine Below.drew ?_) | (with_reducible refine below_drewN ?_ _) | (with_reducible refine Below.setCell ?_ ?_ _) | (with_reducible refine below_via ‹_› ?_ ?_) | (with_reducible refine below_grow ?_ ?_ _ _) | omega | (simp; done) | (simp; omega))); done))).mono ?_; rintro e w1 ⟨rfl, hb⟩; obtain ⟨hc, hf⟩ := bcell hb; have hz := hb.size; (try simp at hz); (try have hz0 : ∀ b, b < w.heap.size → b < w1.heap.size := fun b h => by omega); (try have hz1 : w.heap.size < w1.heap.size := by omega); (try have hz2 : w.heap.size + 1 < w1.heap.size := by omega); (try have hz3 : w.heap.size + 2 < w1.heap.size := by omega); rw [H0.out]) | (go_at_call 73; refine (c_within _ _ _ _).mono ?_; rintro e w' ⟨rfl, rfl⟩))
  obtain ⟨W1, hW1⟩ : ∃ z, z = w1.alloc (Obj.cells #[.string s, .int .i64 a, .int .i64 b, .int .i64 c, .int .i64 x, .int .i64 y, .slice adl ws.length cpl, .int .i64 t, .int .i64 (n : Int), .func (.func fc) #[] caps] 132) := ⟨_, rfl⟩
  obtain ⟨W2, hW2⟩ : ∃ z, z = W1.alloc (.cells #[] 2) := ⟨_, rfl⟩
  rw [← hW1, ← hW2]
  have hz1 : W1.heap.size = w1.heap.size + 1 := by rw [hW1]; simp
  have hz2 : W2.heap.size = W1.heap.size + 1 := by rw [hW2]; simp
  have hB1 : Below w.heap.size w w1 := by (repeat' (first | (with_reducible exact Below.refl _ _) | (with_reducible refine Below.alloc ?_ ?_ _) | (with_reducible refine Below.drew ?_) | (with_reducible refine below_drewN ?_ _) | (with_reducible refine Below.setCell ?_ ?_ _) | (with_reducible refine below_via ‹_› ?_ ?_) | (with_reducible refine below_grow ?_ ?_ _ _) | omega | (simp; done) | (simp; omega)))
  have hz0 := hB1.size
  have hB2 : Below w.heap.size w W2 := by rw [hW2, hW1]; exact Below.alloc (Below.alloc hB1 (by omega) _) (by simp; omega) _
  have hBW : Below w.heap.size w W2 := hB2
  obtain ⟨g, hg⟩ : ∃ g, g = w1.heap.size := ⟨_, rfl⟩
  have hgM : ¬ M g := fun hm => by have := (HM.out g hm).2; omega
  have hRo : Rout B g s a b c x y t (.slice adl ws.length cpl) (.func (.func fc) #[] caps) ws W2 n := by
    rw [hg]
    refine ⟨by omega, by omega, ?_, ?_, ?_, ?_, ?_, ?_, ?_, ?_, ?_, ?_, ?_, H.at hB2, HFar.out⟩
    all_goals rw [hW2, hW1]; first | (simp [go_sem]; done) | (intro j; simp [go_sem])
  have hS0 : SlO W2 B 1 encI (.slice (some ⟨g + 1, 0, none⟩) 0 0) ([] : List Int) :=
    ⟨.inl ⟨_, _, rfl, rfl, Nat.zero_le _⟩, fun b' hb' => by simp [Value.ownBlock] at hb'; subst hb'; exact ⟨by omega, by omega, fun j => by rw [show g + 1 = W1.heap.size by omega, hW2]; simp [go_sem]⟩⟩
  have hap : Apart M g (.slice (some ⟨g + 1, 0, none⟩) 0 0) := fun b' hb' => by
    simp [Value.ownBlock] at hb'; subst hb'
    exact ⟨fun hm => by have := (HM.out _ hm).2; omega, by omega⟩
  have ex := c_search M B g W2.heap.size fc caps reach (R g) s a b c x y t adl cpl ws (HL.out g hgM) (fun k hk => ⟨(HM.out k hk).1, by have := (HM.out k hk).2; omega⟩) (by omega) e1 e2 e3 hw e5 e6 (ws.length + 1) [] _ W2 n a0 (by simp) hF0 hS0 hap hRo hn2 (HR.out g W2 hB2 (by omega)) (Nat.le_refl _) (by omega)
  have HSF := hid (show seekF reach a b x y ws t n a0 = goF reach (treeF (mayB a b x y ws t) ws.length (ws.length + 1) []) n a0 by unfold seekF allT; rw [HN.out])
  obtain ⟨r, hr⟩ : ∃ r, r = goF reach (treeF (mayB a b x y ws t) ws.length (ws.length + 1) []) n a0 := ⟨_, rfl⟩
  rw [← hr] at ex HSF
  have hg2 : w.heap.size ≤ g := by omega
  rw [show w1.heap.size = g from hg.symm]
  clear hr hRo hS0 hap hF0 hg hW1 hW2 hz1 hz2 hB1 hz0 hc hf hz hb
  cases hc5 : (r.code == 5)
  · have H5 := hid (show ¬ r.code = 5 by simpa using hc5)
    refine ex.mono ?_
    rintro e w5 ⟨rfl, hK5, hRo5, hR5⟩
    go_wp2
    go_ret
    rw [HSF.out, HC.out, if_neg H5.out]
    exact ⟨rfl, Kept.drop hBW hK5 hg2, fun _ => ⟨g, hR5⟩⟩
  · have H5 := hid (show r.code = 5 by simpa using hc5)
    refine ex.mono ?_
    rintro e w5 ⟨rfl, hK5, hRo5, hR5⟩
    go_wp2
    go_ret
    rw [HSF.out, HC.out, if_pos H5.out]
    exact ⟨rfl, Kept.drop hBW hK5 hg2, fun h => by cases h⟩
end Go.Proofs.Ytmolcfagmiecjaa
