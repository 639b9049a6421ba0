/- The program's search for voyages. -/
import Derived.Test.YtmolcfagmiecjaaGreedI
import Derived.Test.YtmolcfagmiecjaaKept
namespace Go.Proofs.Ytmolcfagmiecjaa
open Go.RowKit Go.Sort
set_option maxRecDepth 100000

/-- the block of a search: its ship, its base, its works, its start, what is left of its budget -/
structure Rout (B g : Nat) (s : ByteArray) (a b c x y t : Int) (v F : Value) (ws : List WorkD) (w : World) (q : Nat) : Prop where
  lt : g < w.heap.size
  low : B ≤ g
  c0 : w.cell? ⟨g, 0, none⟩ = some (.string s)
  c1 : w.cell? ⟨g, 1, none⟩ = some (.int .i64 a)
  c2 : w.cell? ⟨g, 2, none⟩ = some (.int .i64 b)
  c3 : w.cell? ⟨g, 3, none⟩ = some (.int .i64 c)
  c4 : w.cell? ⟨g, 4, none⟩ = some (.int .i64 x)
  c5 : w.cell? ⟨g, 5, none⟩ = some (.int .i64 y)
  c6 : w.cell? ⟨g, 6, none⟩ = some v
  c7 : w.cell? ⟨g, 7, none⟩ = some (.int .i64 t)
  c8 : w.cell? ⟨g, 8, none⟩ = some (.int .i64 q)
  c9 : w.cell? ⟨g, 9, none⟩ = some F
  fr : ∀ j, w.frozen? ⟨g, j, none⟩ = false
  sl : SlA w 0 7 encWork v ws
  far : 0 < ws.length → ∀ b, v.ownBlock = some b → b < B
theorem Rout.kept {B g : Nat} {s : ByteArray} {a b c x y t : Int} {v F : Value} {ws : List WorkD} {w w' : World} {q : Nat} (h : Rout B g s a b c x y t v F ws w q) {M : Nat → Prop} (hk : Kept M w w') (hg : ¬ M g) (hB : ∀ k, M k → B ≤ k) : Rout B g s a b c x y t v F ws w' q :=
  ⟨Nat.lt_of_lt_of_le h.lt hk.size, h.low, hk.cell h.lt hg h.c0, hk.cell h.lt hg h.c1, hk.cell h.lt hg h.c2, hk.cell h.lt hg h.c3, hk.cell h.lt hg h.c4, hk.cell h.lt hg h.c5, hk.cell h.lt hg h.c6, hk.cell h.lt hg h.c7, hk.cell h.lt hg h.c8, hk.cell h.lt hg h.c9,
    fun j => by rw [hk.frozen h.lt hg]; exact h.fr j, h.sl.kept hk fun hp b hb hm => by have := hB b hm; have := h.far hp b hb; omega, h.far⟩
theorem Rout.set {B g : Nat} {s : ByteArray} {a b c x y t : Int} {v F : Value} {ws : List WorkD} {w : World} {q q' : Nat} (h : Rout B g s a b c x y t v F ws w q) : Rout B g s a b c x y t v F ws (w.setCell ⟨g, 8, none⟩ (.int .i64 q')) q' := by
  have hk : Kept (fun k => k = g) w (w.setCell ⟨g, 8, none⟩ (.int .i64 q')) := (Kept.refl _ w).set _ _ rfl
  refine ⟨by rw [size_set]; exact h.lt, h.low, cell_far h.c0 (by omega), cell_far h.c1 (by omega), cell_far h.c2 (by omega), cell_far h.c3 (by omega), cell_far h.c4 (by omega), cell_far h.c5 (by omega), cell_far h.c6 (by omega), cell_far h.c7 (by omega), cell_here h.c8, cell_far h.c9 (by omega),
    fun j => by rw [World.frozen?_setCell]; exact h.fr j, h.sl.kept hk fun hp b hb e => by have := h.far hp b hb; have := h.low; omega, h.far⟩
/-- a list that the search must leave alone -/
def Apart (M : Nat → Prop) (g : Nat) (v : Value) : Prop := ∀ b, v.ownBlock = some b → ¬ M b ∧ b ≠ g
def SeekR {A : Type} (M : Nat → Prop) (g : Nat) (Ro : World → Nat → Prop) (R : World → A → Prop) (w w' : World) (r : Res A) (e : Ending) : Prop :=
  e = .returned (.int .i64 r.code) ∧ Kept (fun k => M k ∨ k = g) w w' ∧ Ro w' r.left ∧ R w' r.ans
/-- what a search asks of the function that looks at an order -/
structure Looks {A : Type} (M : Nat → Prop) (g lo m : Nat) (Q : List Int → Prop) (fc : Nat) (caps : Array Value) (reach : A → List Int → A × Bool) (R : World → A → Prop) : Prop where
  stay : ∀ w w' a, R w a → Kept (fun k => k = g) w w' → R w' a
  call : ∀ w a os v, R w a → SlO w lo 1 encI v os → Apart M g v → os.length ≤ m → Q os → Calls Try.prog fc (#[v] ++ caps) w fun e w' => e = .returned (.bool (reach a os).2) ∧ R w' (reach a os).1 ∧ Kept M w w'
  notg : ¬ M g
  ent : ∀ (args : Array Value) (w : World), (callFunc fc args).run Try.prog w = .ok (.enter fc args) w
theorem apart_new {M : Nat → Prop} {g H lo : Nat} {w : World} {v : Value} {xs : List Int} (hM : ∀ k, M k → k < H) (hg : g < H) (h : SlO w lo 1 encI v xs) (hl : H ≤ lo) : Apart M g v := fun b hb => by
  obtain ⟨-, h2, -⟩ := h.2 b hb
  exact ⟨fun hm => by have := hM b hm; omega, by omega⟩
theorem seek_code {A : Type} (reach : A → List Int → A × Bool) (xs ys : List (List Int)) (b : Nat) (a : A) (h : (goF reach xs b a).code = 0) : goF reach (xs ++ ys) b a = goF reach ys (goF reach xs b a).left (goF reach xs b a).ans := by rw [goF_append, if_pos h]
theorem seek_out {A : Type} (reach : A → List Int → A × Bool) (xs ys : List (List Int)) (b : Nat) (a : A) (h : (goF reach xs b a).code ≠ 0) : goF reach (xs ++ ys) b a = goF reach xs b a := by rw [goF_append, if_neg h]
theorem mayB_no {a ld bx bY t : Int} {ws : List WorkD} {os : List Int} {k : Int} (h : endK a ld bx bY ws t os k = none) : mayB a ld bx bY ws t os k = false := by rw [mayB, h]; rfl
set_option maxHeartbeats 4000000 in
theorem c_search {A : Type} (M : Nat → Prop) (B g H fc : Nat) (caps : Array Value) (reach : A → List Int → A × Bool) (R : World → A → Prop) (s : ByteArray) (a b c x y t : Int) (adl : Option Addr) (cpl : Nat) (ws : List WorkD)
    (hL : Looks M g B ws.length (FineO a b x y t ws) fc caps reach R) (hM : ∀ k, M k → B ≤ k ∧ k < H) (hg : g < H) (e1 : 1 ≤ a) (e2 : a ≤ 2000) (e3 : pointB x y = true) (hw : worksB ws = true) (e5 : 0 ≤ t) (e6 : t ≤ 4320) (n : Nat) :
    ∀ (os : List Int) (v : Value) (w : World) (q : Nat) (al : A), os.length + n = ws.length + 1 → FineO a b x y t ws os → SlO w B 1 encI v os → Apart M g v → Rout B g s a b c x y t (.slice adl ws.length cpl) (.func (.func fc) #[] caps) ws w q → q ≤ 20000 → R w al → H ≤ w.heap.size → B ≤ H →
      Calls Try.prog 109 #[.pointer (some ⟨g, 0, none⟩), v] w fun e w' => SeekR M g (Rout B g s a b c x y t (.slice adl ws.length cpl) (.func (.func fc) #[] caps) ws) R w w' (goF reach (treeF (mayB a b x y ws t) ws.length n os) q al) e := by
  induction n with
  | zero => intro os v w q al hn hF; have := hF.len; omega
  | succ n ih =>
    intro os v w q al hn hF hS hA hRo hq hR hHw hBH
    obtain ⟨i0, hi, iz0, iz1, iz2⟩ := info_parts info_Int64
    have h12 := (works_all hw).1
    have HF := hid hF
    have hos := hF.len
    obtain ⟨adv, cpv, hvf⟩ := hS.1.form
    subst hvf
    have HR := hid hR
    have HRo := hid hRo
    have HA := hid hA
    have HS := hid hS
    have HL := hid hL
    have IH := hid ih
    have HM1 := hid (fun k (hk : M k ∨ k = g) => show B ≤ k from hk.elim (fun h => (hM k h).1) (fun h => h ▸ hRo.low))
    have HM2 := hid (fun k (hk : M k) => (hM k hk).2)
    have hglt := hRo.lt
    have hgB := hRo.low
    have q8 := hRo.c8
    have q9 := hRo.c9
    have f8 := hRo.fr 8
    clear hR hRo hA hS hF ih hL hM
    by_cases h0 : q = 0
    · subst h0
      have HG := hid (show goF reach (treeF (mayB a b x y ws t) ws.length (n + 1) os) 0 al = ⟨al, 0, 5⟩ from goF_full _ _ _ _)
      go_enter Try.func109, Try.ntmps109
      go_wp2
      go_ret
      rw [HG.out]
      exact ⟨rfl, Kept.refl _ _, HRo.out, HR.out⟩
    · obtain ⟨q1, hq1⟩ : ∃ q1 : Nat, q = q1 + 1 := ⟨q - 1, by omega⟩
      have HQ1 := hid hq1
      have hq0 : ((q : Int) == 0) = false := by rw [beq_eq_false_iff_ne]; omega
      have hqw : IntKind.i64.wrap ((q : Int) - 1) = (q1 : Int) := by rw [IntWalk.i64_in _ (by omega)]; omega
      have hK1 : Kept (fun k => k = g) w (w.setCell ⟨g, 8, none⟩ (.int .i64 (q1 : Int))) := (Kept.refl _ w).set _ _ rfl
      have HK1 := hid hK1
      have HRo1 := hid (show Rout B g s a b c x y t (.slice adl ws.length cpl) (.func (.func fc) #[] caps) ws (w.setCell ⟨g, 8, none⟩ (.int .i64 (q1 : Int))) q1 from HRo.out.set)
      have HR1 := hid (HL.out.stay w _ al HR.out hK1)
      have hcl := HL.out.call _ al os _ HR1.out (HS.out.kept hK1 fun b hb => (HA.out b hb).2) HA.out hos HF.out
      have hent := HL.out.ent
      clear hq1 hK1
      cases hr : (reach al os).2
      · have HG := hid (show goF reach (treeF (mayB a b x y ws t) ws.length (n + 1) os) q al = ⟨(reach al os).1, q1, 6⟩ by rw [treeF, goF_stop h0 hr, HQ1.out]; rfl)
        rw [hr] at hcl
        clear h0 hr
        go_enter Try.func109, Try.ntmps109
        go_wp2_with fail
        refine hcl.mono ?_
        rintro e w2 ⟨rfl, hR2, hK2⟩
        go_wp2
        go_ret
        rw [HG.out]
        exact ⟨rfl, (HK1.out.mono fun _ h => .inr h).trans (hK2.mono fun _ h => .inl h), HRo1.out.kept hK2 HL.out.notg fun k hk => HM1.out k (.inl hk), hR2⟩
      · have HG := hid (show goF reach (treeF (mayB a b x y ws t) ws.length (n + 1) os) q al = goF reach (leftF (mayB a b x y ws t) ws.length n os 0) q1 (reach al os).1 by rw [leftF_start, goF_on h0 hr, HQ1.out]; rfl)
        rw [hr] at hcl
        clear h0 hr
        have hq1b : q1 ≤ 20000 := by have := HQ1.out; omega
        go_enter Try.func109, Try.ntmps109
        go_wp2_with fail
        refine hcl.mono ?_
        rintro e w2 ⟨rfl, hR2, hK2⟩
        have HK2 := hid ((HK1.out.mono (fun _ h => .inr h) : Kept (fun k => M k ∨ k = g) _ _).trans (hK2.mono fun _ h => .inl h))
        have HRo2 := hid (HRo1.out.kept hK2 HL.out.notg fun k hk => HM1.out k (.inl hk))
        have HR2 := hid hR2
        have c6 := HRo2.out.c6
        clear hent hcl hK2 hR2 q8 q9 f8 hqw hq0
        go_wp2
        go_loopw [34] (fun i wr => ∃ (k q' : Nat) (al' : A), k ≤ ws.length ∧ i = .int .i64 k ∧ q' ≤ 20000 ∧ Rout B g s a b c x y t (.slice adl ws.length cpl) (.func (.func fc) #[] caps) ws wr q' ∧ R wr al' ∧ Kept (fun k => M k ∨ k = g) w wr ∧
          goF reach (treeF (mayB a b x y ws t) ws.length (n + 1) os) q al = goF reach (leftF (mayB a b x y ws t) ws.length n os k) q' al') (fun i _ => ws.length - (intOf i).toNat)
        case atStart => exact ⟨0, q1, _, Nat.zero_le _, rfl, hq1b, HRo2.out, HR2.out, HK2.out, HG.out⟩
        case round =>
          clear c6
          obtain ⟨k, q', al', hk, rfl, hq', hRo, hR, hK, hG⟩ := hrel
          have HRo := hid hRo
          have HR := hid hR
          have HK := hid hK
          have HG := hid hG
          have hzr := hK.size
          have hS1 := HS.out.kept hK fun b hb hm => hm.elim (HA.out b hb).1 (HA.out b hb).2
          have hSr : SlA wr 0 1 encI (.slice adv os.length cpv) os := hS1.1.mono (Nat.zero_le _)
          have hglt := hRo.lt
          clear hRo hR hK hG hS1
          by_cases hlt : k < ws.length
          · have hlI : (k : Int) < ws.length := by omega
            cases hh : hasB os k
            · have hm := HF.out.more hlt hh
              have hml : (os ++ [(k : Int)]).length ≤ 1048576 := by simp; omega
              have cc := fun (wq : World) u h hu => c_voyage s a b c x y t (.slice adl ws.length cpl) u ws (os ++ [(k : Int)]) wq e1 e2 h hw hu hm hml e3 e5 e6
              have hHr : H ≤ wr.heap.size := by omega
              have hBr : B ≤ wr.heap.size := by omega
              go_wp2_with (first | (go_at_call 84; refine (c_Contains _ _ _ _ (by first | (with_reducible assumption) | (with_reducible apply SlO.at; (with_reducible assumption); (repeat' (first | (with_reducible exact Below.refl _ _) | (with_reducible refine Below.alloc ?_ ?_ _) | (with_reducible refine Below.drew ?_) | (with_reducible refine below_drewN ?_ _) | (with_reducible refine Below.setCell ?_ ?_ _) | (with_reducible refine below_via ‹_› ?_ ?_) | (with_reducible refine below_grow ?_ ?_ _ _) | omega | (simp; done) | (simp; omega))); done) | (with_reducible apply SlA.at; (with_reducible assumption); (repeat' (first | (with_reducible exact Below.refl _ _) | (with_reducible refine Below.alloc ?_ ?_ _) | (with_reducible refine Below.drew ?_) | (with_reducible refine below_drewN ?_ _) | (with_reducible refine Below.setCell ?_ ?_ _) | (with_reducible refine below_via ‹_› ?_ ?_) | (with_reducible refine below_grow ?_ ?_ _ _) | omega | (simp; done) | (simp; omega))); done))).mono ?_; rintro e w' ⟨rfl, rfl⟩) | (go_at_call 85; refine (c_clone_fresh _ _ _ (by first | (with_reducible assumption) | (with_reducible apply SlO.at; (with_reducible assumption); (repeat' (first | (with_reducible exact Below.refl _ _) | (with_reducible refine Below.alloc ?_ ?_ _) | (with_reducible refine Below.drew ?_) | (with_reducible refine below_drewN ?_ _) | (with_reducible refine Below.setCell ?_ ?_ _) | (with_reducible refine below_via ‹_› ?_ ?_) | (with_reducible refine below_grow ?_ ?_ _ _) | omega | (simp; done) | (simp; omega))); done) | (with_reducible apply SlA.at; (with_reducible assumption); (repeat' (first | (with_reducible exact Below.refl _ _) | (with_reducible refine Below.alloc ?_ ?_ _) | (with_reducible refine Below.drew ?_) | (with_reducible refine below_drewN ?_ _) | (with_reducible refine Below.setCell ?_ ?_ _) | (with_reducible refine below_via ‹_› ?_ ?_) | (with_reducible refine below_grow ?_ ?_ _ _) | omega | (simp; done) | (simp; omega))); done)) (by omega)).mono ?_; rintro e w2 ⟨u2, rfl, hb2, hF2⟩; have HF2 := hid hF2; clear hF2; have hz2 := hb2.size; (try simp at hz2)) | (at_builtin; refine wpList_fresh rfl (.tmp 41) (.tmp 43) 29 rfl i0 Try.underlying29 hi iz0 iz1 iz2 (k : Int) rfl HF2.out (by (repeat' (first | (with_reducible exact Below.refl _ _) | (with_reducible refine Below.alloc ?_ ?_ _) | (with_reducible refine Below.drew ?_) | (with_reducible refine below_drewN ?_ _) | (with_reducible refine Below.setCell ?_ ?_ _) | (with_reducible refine below_via ‹_› ?_ ?_) | (with_reducible refine below_grow ?_ ?_ _ _) | omega | (simp; done) | (simp; omega)))) _ 1 rfl (by omega) ?_; intro v3 w3 hb3 hF3; have hz3 := hb3.size; (try simp at hz3)))
              have hB3 : Below wr.heap.size wr w3 := by (repeat' (first | (with_reducible exact Below.refl _ _) | (with_reducible refine Below.alloc ?_ ?_ _) | (with_reducible refine Below.drew ?_) | (with_reducible refine below_drewN ?_ _) | (with_reducible refine Below.setCell ?_ ?_ _) | (with_reducible refine below_via ‹_› ?_ ?_) | (with_reducible refine below_grow ?_ ?_ _ _) | omega | (simp; done) | (simp; omega)))
              have hS3 : SlO w3 wr.heap.size 1 encI v3 (os ++ [(k : Int)]) := hF3.slo.mono (by first | exact Nat.le_refl _ | (simp; done) | omega)
              have HS3 := hid hS3
              have HRo3 := hid (HRo.out.kept (Kept.of (M := M) hB3) HL.out.notg fun k hk => HM1.out k (.inl hk))
              have HR3 := hid (HL.out.stay _ _ _ HR.out (Kept.of hB3))
              have hSw : SlA w3 0 7 encWork (.slice adl ws.length cpl) ws := HRo3.out.sl
              have hSu : SlA w3 0 1 encI v3 (os ++ [(k : Int)]) := hS3.1.mono (Nat.zero_le _)
              have hg3 : g < w3.heap.size := HRo3.out.lt
              have r0 : ∀ w', Since w3 w' → w'.cell? ⟨g, 0, none⟩ = some (.string s) := fun w' hh => below_cell hh.out HRo3.out.lt HRo3.out.c0
              have r1 : ∀ w', Since w3 w' → w'.cell? ⟨g, 1, none⟩ = some (.int .i64 a) := fun w' hh => below_cell hh.out HRo3.out.lt HRo3.out.c1
              have r2 : ∀ w', Since w3 w' → w'.cell? ⟨g, 2, none⟩ = some (.int .i64 b) := fun w' hh => below_cell hh.out HRo3.out.lt HRo3.out.c2
              have r3 : ∀ w', Since w3 w' → w'.cell? ⟨g, 3, none⟩ = some (.int .i64 c) := fun w' hh => below_cell hh.out HRo3.out.lt HRo3.out.c3
              have r4 : ∀ w', Since w3 w' → w'.cell? ⟨g, 4, none⟩ = some (.int .i64 x) := fun w' hh => below_cell hh.out HRo3.out.lt HRo3.out.c4
              have r5 : ∀ w', Since w3 w' → w'.cell? ⟨g, 5, none⟩ = some (.int .i64 y) := fun w' hh => below_cell hh.out HRo3.out.lt HRo3.out.c5
              have r6 : ∀ w', Since w3 w' → w'.cell? ⟨g, 6, none⟩ = some (.slice adl ws.length cpl) := fun w' hh => below_cell hh.out HRo3.out.lt HRo3.out.c6
              have r7 : ∀ w', Since w3 w' → w'.cell? ⟨g, 7, none⟩ = some (.int .i64 t) := fun w' hh => below_cell hh.out HRo3.out.lt HRo3.out.c7
              have hz3 := hB3.size
              clear hS3 hF3 hSr hb2 hb3
              have hBB := hB3
              clear hB3
              by_cases hq : voyC a b x y ws (os ++ [(k : Int)]) t = 0
              case' pos =>
                have hmay : mayB a b x y ws t os (k : Int) = true := by
                  obtain ⟨cs, E, -, he, -⟩ := endK_some hh hq hm
                  rw [mayB, he]; rfl
                have HN := hid (leftF_yes (n := n) hlt hmay)
                have HF4 := hid (HF.out.next hlt hmay)
                simp only [hq] at cc
              case' neg =>
                have hne : (voyC a b x y ws (os ++ [(k : Int)]) t != 0) = true := by simpa using hq
                have HN := hid (leftF_no (n := n) hlt (mayB_no (endK_late hq)))
              all_goals
                clear hq hm
                go_region_held3 (fun w' => Since w3 w') ((refine since_of ?_; (repeat' (first | (with_reducible exact Below.refl _ _) | (with_reducible refine Below.alloc ?_ ?_ _) | (with_reducible refine Below.drew ?_) | (with_reducible refine below_drewN ?_ _) | (with_reducible refine Below.setCell ?_ ?_ _) | (with_reducible refine below_via ‹_› ?_ ?_) | (with_reducible refine below_grow ?_ ?_ _ _) | omega | (simp; done) | (simp; omega))))) (first | (go_at_call 66; refine (cc _ _ (by first | (with_reducible assumption) | (with_reducible apply SlO.at; (with_reducible assumption); (repeat' (first | (with_reducible exact Below.refl _ _) | (with_reducible refine Below.alloc ?_ ?_ _) | (with_reducible refine Below.drew ?_) | (with_reducible refine below_drewN ?_ _) | (with_reducible refine Below.setCell ?_ ?_ _) | (with_reducible refine below_via ‹_› ?_ ?_) | (with_reducible refine below_grow ?_ ?_ _ _) | omega | (simp; done) | (simp; omega))); done) | (with_reducible apply SlA.at; (with_reducible assumption); (repeat' (first | (with_reducible exact Below.refl _ _) | (with_reducible refine Below.alloc ?_ ?_ _) | (with_reducible refine Below.drew ?_) | (with_reducible refine below_drewN ?_ _) | (with_reducible refine Below.setCell ?_ ?_ _) | (with_reducible refine below_via ‹_› ?_ ?_) | (with_reducible refine below_grow ?_ ?_ _ _) | omega | (simp; done) | (simp; omega))); done)) (by first | (with_reducible assumption) | (with_reducible apply SlO.at; (with_reducible assumption); (repeat' (first | (with_reducible exact Below.refl _ _) | (with_reducible refine Below.alloc ?_ ?_ _) | (with_reducible refine Below.drew ?_) | (with_reducible refine below_drewN ?_ _) | (with_reducible refine Below.setCell ?_ ?_ _) | (with_reducible refine below_via ‹_› ?_ ?_) | (with_reducible refine below_grow ?_ ?_ _ _) | omega | (simp; done) | (simp; omega))); done) | (with_reducible apply SlA.at; (with_reducible assumption); (repeat' (first | (with_reducible exact Below.refl _ _) | (with_reducible refine Below.alloc ?_ ?_ _) | (with_reducible refine Below.drew ?_) | (with_reducible refine below_drewN ?_ _) | (with_reducible refine Below.setCell ?_ ?_ _) | (with_reducible refine below_via ‹_› ?_ ?_) | (with_reducible refine below_grow ?_ ?_ _ _) | omega | (simp; done) | (simp; omega))); done))).mono ?_; rintro e w4 ⟨u4, rfl, hb4, hS4⟩; have hz4 := hb4.size; (try simp at hz4)))
                have hB4 : Below w3.heap.size w3 w4 := by (repeat' (first | (with_reducible exact Below.refl _ _) | (with_reducible refine Below.alloc ?_ ?_ _) | (with_reducible refine Below.drew ?_) | (with_reducible refine below_drewN ?_ _) | (with_reducible refine Below.setCell ?_ ?_ _) | (with_reducible refine below_via ‹_› ?_ ?_) | (with_reducible refine below_grow ?_ ?_ _ _) | omega | (simp; done) | (simp; omega)))
                have hB5 : Below wr.heap.size wr w4 := hBB.trans (hB4.mono hBB.size)
                have hK4 := HK.out.trans (Kept.of (M := fun k => M k ∨ k = g) hB5)
                have HK4 := hid hK4
                have HRo4 := hid (HRo3.out.kept (Kept.of (M := M) hB4) HL.out.notg fun k hk => HM1.out k (.inl hk))
                have HR4 := hid (HL.out.stay _ _ _ HR3.out (Kept.of hB4))
                have HS4 := hid (HS3.out.below hB4 (Nat.le_refl _))
                clear r0 r1 r2 r3 r4 r5 r6 r7 cc hS4 hSw hSu hK4
              rotate_left
              · have hap := apart_new HM2.out (by omega) HS4.out (by omega)
                have ex := IH.out (os ++ [(k : Int)]) v3 w4 q' al' (by simp; omega) HF4.out (HS4.out.mono (by omega)) hap HRo4.out hq' HR4.out (by omega) hBH
                obtain ⟨r, hr⟩ : ∃ r, r = goF reach (treeF (mayB a b x y ws t) ws.length n (os ++ [(k : Int)])) q' al' := ⟨_, rfl⟩
                have hleft := (goF_left reach (treeF (mayB a b x y ws t) ws.length n (os ++ [(k : Int)])) q' al').1
                rw [← hr] at ex hleft
                by_cases hc : r.code = 0
                · have HS5 := hid (seek_code reach (treeF (mayB a b x y ws t) ws.length n (os ++ [(k : Int)])) (leftF (mayB a b x y ws t) ws.length n os (k + 1)) q' al' (by rw [← hr]; exact hc))
                  rw [← hr] at HS5
                  have hcb : (r.code != 0) = false := by rw [hc]; rfl
                  clear hr hc hap
                  go_wp2_with (go_at_call 109; refine ex.mono ?_; rintro e w5 ⟨rfl, hK5, hRo5, hR5⟩)
                  go_roundw
                  case rel => exact ⟨k + 1, r.left, r.ans, by omega, by go_num, by omega, hRo5, hR5, HK4.out.trans hK5, by rw [HG.out, HN.out, HS5.out]⟩
                  case measure => simp [intOf]; omega
                · have HS5 := hid (seek_out reach (treeF (mayB a b x y ws t) ws.length n (os ++ [(k : Int)])) (leftF (mayB a b x y ws t) ws.length n os (k + 1)) q' al' (by rw [← hr]; exact hc))
                  rw [← hr] at HS5
                  have hcb : (r.code != 0) = true := by simpa using hc
                  clear hr hc hap
                  go_wp2_with (go_at_call 109; refine ex.mono ?_; rintro e w5 ⟨rfl, hK5, hRo5, hR5⟩)
                  go_ret
                  rw [HG.out, HN.out, HS5.out]
                  exact ⟨rfl, HK4.out.trans hK5, hRo5, hR5⟩
              · go_wp2
                go_roundw
                case rel => exact ⟨k + 1, q', al', by omega, by go_num, hq', HRo4.out, HR4.out, HK4.out, by rw [HG.out, HN.out]⟩
                case measure => simp [intOf]; omega
            · have HN := hid (leftF_no (n := n) hlt (mayB_no (endK_has (a := a) (b := b) (x := x) (y := y) (t := t) (ws := ws) hh)))
              go_wp2_with (first | (go_at_call 84; refine (c_Contains _ _ _ _ (by first | (with_reducible assumption) | (with_reducible apply SlO.at; (with_reducible assumption); (repeat' (first | (with_reducible exact Below.refl _ _) | (with_reducible refine Below.alloc ?_ ?_ _) | (with_reducible refine Below.drew ?_) | (with_reducible refine below_drewN ?_ _) | (with_reducible refine Below.setCell ?_ ?_ _) | (with_reducible refine below_via ‹_› ?_ ?_) | (with_reducible refine below_grow ?_ ?_ _ _) | omega | (simp; done) | (simp; omega))); done) | (with_reducible apply SlA.at; (with_reducible assumption); (repeat' (first | (with_reducible exact Below.refl _ _) | (with_reducible refine Below.alloc ?_ ?_ _) | (with_reducible refine Below.drew ?_) | (with_reducible refine below_drewN ?_ _) | (with_reducible refine Below.setCell ?_ ?_ _) | (with_reducible refine below_via ‹_› ?_ ?_) | (with_reducible refine below_grow ?_ ?_ _ _) | omega | (simp; done) | (simp; omega))); done))).mono ?_; rintro e w' ⟨rfl, rfl⟩))
              go_roundw
              case rel => exact ⟨k + 1, q', al', by omega, by go_num, hq', HRo.out, HR.out, HK.out, HG.out.trans (by rw [HN.out])⟩
              case measure => simp [intOf]; omega
          · have e : k = ws.length := by omega
            subst e
            go_wp2
            go_ret
            rw [HG.out, leftF_end, goF_nil]
            exact ⟨rfl, HK.out, HRo.out, HR.out⟩
end Go.Proofs.Ytmolcfagmiecjaa
