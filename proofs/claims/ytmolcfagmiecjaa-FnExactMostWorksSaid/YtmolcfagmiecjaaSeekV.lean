/- The reference's search for voyages, walked. -/
import Derived.Test.YtmolcfagmiecjaaSeekT
import Derived.StillTactics
import Derived.Deep.DeepCutAuto
namespace Go.Proofs.Ytmolcfagmiecjaa
open Go.RowKit Go.Sort
set_option maxRecDepth 100000

theorem wpList_row {α : Type} {P : Program} {ops : Array Oper} {rest : List Oper} {o : Oper} {a : Act} {Q : Exit → Act → World → Prop} (hgd : o.guard = none) (s x : Operand) (t : TypeId)
    (ho : o.op = .call { callee := .builtin .append, args := #[s, x], argTypes := #[t, t] }) {e : TypeId} {n B : Nat} {enc : α → List Value} (i : TypeInfo) (z : Value) (bytes : Nat) (ht : P.underlying t = some (.slice e)) (hi : P.info? e = some i) (hz : i.zero = some z)
    (hsize : i.size = n) (hby : i.bytes = bytes) (hzs : z.cells.size = n) (hsz : 0 < n) (hn : ∀ y, (enc y).length = n) {w0 : World} {v : Value} {xs : List α} (y : α) (hs : a.eval s = v) (T : TypeId)
    (hO : (w0.alloc (.cells (enc y).toArray T)).ownsRow B e n v xs.length (xs.flatMap enc)) (c : Nat) (hx : a.eval x = .slice (some ⟨w0.heap.size, 0, none⟩) 1 c) (h1 : ∀ u ∈ enc y, u.oneCell' = true) (h63 : xs.length + 1 ≤ maxLen) (hbytes : (xs.length + 1) * bytes ≤ 140737488355328) (hB : B ≤ w0.heap.size)
    (h : ∀ v' w', w'.ownsRow B e n v' (xs ++ [y]).length ((xs ++ [y]).flatMap enc) → (w0.alloc (.cells (enc y).toArray T)).grownBy w' v.ownBlock → (v'.ownBlock = v.ownBlock ∨ v'.ownBlock = some (w0.heap.size + 1)) → wpList P ops Q rest (a.put o.dst v') w') : wpList P ops Q (o :: rest) a (w0.alloc (.cells (enc y).toArray T)) := by
  refine wpList_append_own_at _ hgd s x t ho B e i z n bytes ht hi hz hsize hby hzs hsz v xs.length _ hs hO ⟨w0.heap.size, 0, none⟩ 1 c (enc y) hx (by rw [hn]; omega) (cells_new _ _ _) h1 h63 hbytes (by simp; omega) ?_
  intro v' w' hown hgr _ hat
  refine h v' w' ?_ hgr (by rw [World.size_alloc] at hat; exact hat)
  rw [List.flatMap_append, List.length_append]; simpa using hown

theorem wpList_rowD {α : Type} {P : Program} {ops : Array Oper} {rest : List Oper} {o : Oper} {a : Act} {Q : Exit → Act → World → Prop} (hgd : o.guard = none) (s x : Operand) (t : TypeId)
    (ho : o.op = .call { callee := .builtin .append, args := #[s, x], argTypes := #[t, t] }) {e : TypeId} {n B : Nat} {enc : α → List Value} (i : TypeInfo) (z : Value) (bytes : Nat) (ht : P.underlying t = some (.slice e)) (hi : P.info? e = some i) (hz : i.zero = some z)
    (hsize : i.size = n) (hby : i.bytes = bytes) (hzs : z.cells.size = n) (hsz : 0 < n) (hn : ∀ y, (enc y).length = n) (w0 : World) {v : Value} {xs : List α} (y : α) (hs : a.eval s = v) (T : TypeId)
    (hO : (w0.alloc (.cells (enc y).toArray T)).drew.ownsRow B e n v xs.length (xs.flatMap enc)) (c : Nat) (hx : a.eval x = .slice (some ⟨w0.heap.size, 0, none⟩) 1 c) (h1 : ∀ u ∈ enc y, u.oneCell' = true) (h63 : xs.length + 1 ≤ maxLen) (hbytes : (xs.length + 1) * bytes ≤ 140737488355328) (hB : B ≤ w0.heap.size)
    (h : ∀ v' w', w'.ownsRow B e n v' (xs ++ [y]).length ((xs ++ [y]).flatMap enc) → (w0.alloc (.cells (enc y).toArray T)).drew.grownBy w' v.ownBlock → (v'.ownBlock = v.ownBlock ∨ v'.ownBlock = some (w0.heap.size + 1)) → wpList P ops Q rest (a.put o.dst v') w') : wpList P ops Q (o :: rest) a (w0.alloc (.cells (enc y).toArray T)).drew := by
  refine wpList_append_own_at _ hgd s x t ho B e i z n bytes ht hi hz hsize hby hzs hsz v xs.length _ hs hO ⟨w0.heap.size, 0, none⟩ 1 c (enc y) hx (by rw [hn]; omega) (fun j u h => cells_new w0 (enc y) T j u h) h1 h63 hbytes (show B ≤ (w0.alloc (.cells (enc y).toArray T)).heap.size by simp; omega) ?_
  intro v' w' hown hgr _ hat
  have hat : v'.ownBlock = v.ownBlock ∨ v'.ownBlock = some (w0.alloc (.cells (enc y).toArray T)).heap.size := hat
  refine h v' w' ?_ hgr (by rw [World.size_alloc] at hat; exact hat)
  rw [List.flatMap_append, List.length_append]; simpa using hown

/-! ### what the search's frame is -/
def M3 (X : Nat) (vO vC : Value) (k : Nat) : Prop := k = X ∨ vO.ownBlock = some k ∨ vC.ownBlock = some k
/-- the same block, or one made since -/
def Near (w : World) (v v' : Value) : Prop := v'.ownBlock = v.ownBlock ∨ ∀ b, v'.ownBlock = some b → w.heap.size ≤ b
theorem Near.refl (w : World) (v : Value) : Near w v v := .inl rfl
theorem Near.trans {w w1 : World} {v v1 v2 : Value} (h : Near w v v1) (k : Near w1 v1 v2) (hw : w.heap.size ≤ w1.heap.size) : Near w v v2 := by
  rcases k with k | k
  · rcases h with h | h
    · exact .inl (k.trans h)
    · exact .inr fun b hb => h b (k ▸ hb)
  · exact .inr fun b hb => Nat.le_trans hw (k b hb)
theorem Near.old {w : World} {v v' : Value} (h : Near w v v') {g : Nat} (hg : g < w.heap.size) (hv : v'.ownBlock = some g) : v.ownBlock = some g := by
  rcases h with h | h
  · rw [← h]; exact hv
  · have := h g hv; omega
theorem Kept.to {M M' : Nat → Prop} {a b c : World} (h : Kept M a b) (k : Kept M' b c) (hm : ∀ g, g < a.heap.size → M' g → M g) : Kept M a c :=
  ⟨k.os.trans h.os, k.tape.trans h.tape, k.output.trans h.output, Nat.le_trans h.size k.size, fun i hi hn => (k.block i (Nat.lt_of_lt_of_le hi h.size) fun h2 => hn (hm i hi h2)).trans (h.block i hi hn)⟩
theorem Kept.ofGrown {a b : World} {r : Option Nat} (h : a.grownBy b r) : Kept (fun k => r = some k) a b := ⟨h.os, h.tape, h.output, h.size, fun k hk hn => h.block k hk fun e => hn e.symm⟩
theorem Blk.kept {w w' : World} {X : Nat} {T : TypeId} {cs : List Value} (h : Blk w X T cs) {M : Nat → Prop} (hk : Kept M w w') (hm : ¬ M X) : Blk w' X T cs := by
  have hl := h.lt
  unfold Blk at h ⊢
  rw [hk.block X hl hm]; exact h
theorem blk_alloc (w : World) (cs : List Value) (T : TypeId) : Blk (w.alloc (.cells cs.toArray T)) w.heap.size T cs := by
  unfold Blk; exact heap_alloc_new _ _
theorem blk_ne {w : World} {X Y : Nat} {T T' : TypeId} {cs cs' : List Value} (h : Blk w X T cs) (h' : Blk w Y T' cs') (hne : T ≠ T') : X ≠ Y := fun e => by
  subst e; unfold Blk at h h'; rw [h] at h'; simp at h'; exact hne h'.2
/-- what the search reads beside its block -/
structure Env (B bs : Nat) (a b : Int) (v : Value) (ws : List WorkD) (w : World) : Prop where
  lt : bs < B
  low : B ≤ w.heap.size
  c1 : w.cell? ⟨bs, 1, none⟩ = some (.int .i64 a)
  c2 : w.cell? ⟨bs, 2, none⟩ = some (.int .i64 b)
  sl : SlA w 0 7 encWork v ws
  far : 0 < ws.length → ∀ k, v.ownBlock = some k → k < B
theorem Env.kept {B bs : Nat} {a b : Int} {v : Value} {ws : List WorkD} {w w' : World} (h : Env B bs a b v ws w) {M : Nat → Prop} (hk : Kept M w w') (hM : ∀ k, M k → B ≤ k) : Env B bs a b v ws w' := by
  have h1 := h.lt; have h2 := h.low
  exact ⟨h.lt, Nat.le_trans h.low hk.size, hk.cell (by omega) (fun e => by have := hM _ e; omega) h.c1, hk.cell (by omega) (fun e => by have := hM _ e; omega) h.c2, h.sl.kept hk fun hp b hb e => by have := hM _ e; have := h.far hp b hb; omega, h.far⟩
theorem m3_low {B X bs : Nat} {x y t bq mode : Int} {lv : Value} {w : World} {os : List Int} {cs : List CallD} {l : Int} {A : SpA} {nodes : Int} {vO vC vB : Value} {least : Int} (h : XS B X bs x y t bq mode lv w os cs l A nodes vO vC vB least) (hBX : B ≤ X) : ∀ k, M3 X vO vC k → B ≤ k := fun k hk => by
  rcases hk with rfl | e | e
  · exact hBX
  · exact (own_blk h.ord e).choose_spec.2
  · exact (own_blk h.calls e).choose_spec.2
def VisitR (B X bs : Nat) (x y t bq mode : Int) (lv : Value) (os : List Int) (cs : List CallD) (l : Int) (vO vC : Value) (w w' : World) (r : Res SpA) (e : Ending) : Prop :=
  ∃ vO' vC' vB' least', e = .returned (.bool (r.code == 0)) ∧ XS B X bs x y t bq mode lv w' os cs l r.ans (if r.code = 5 then bq + 1 else bq - r.left) vO' vC' vB' least' ∧ Near w vO vO' ∧ Near w vC vC' ∧ Kept (M3 X vO vC) w w'
theorem greed_calls {a b x y t : Int} {ws : List WorkD} {os : List Int} {px py tt l : Int} (h : GreedS a b x y t ws os px py tt l) {cs : List CallD} (hc : callsF a ws os x y t = some cs) : tt = lpt t cs := by
  obtain ⟨cs', h1, h2⟩ := h.calls
  rw [hc] at h1; injection h1 with h1; rw [h1]; exact h2
theorem greed_last {a b x y t : Int} {ws : List WorkD} {os : List Int} {px py tt l : Int} (h : GreedS a b x y t ws os px py tt l) {cs : List CallD} (hc : callsF a ws os x y t = some cs) (h0 : 0 < os.length) :
    ∃ j : Nat, ∃ hj : j < ws.length, os[os.length - 1] = (j : Int) ∧ px = ws[j].fAtX ∧ py = ws[j].fAtY ∧ cs.length = os.length ∧ ∀ i, (hi : i < cs.length) → i + 1 = cs.length → cs[i].fEnd = tt := by
  obtain ⟨j, hj, hjl⟩ := ordB_nat h.ord (show os.length - 1 < os.length by omega)
  have hlen := callsF_len hc
  have e1 : os.getLast? = some (j : Int) := by rw [List.getLast?_eq_getElem?, List.getElem?_eq_getElem (by omega), hj]
  refine ⟨j, hjl, hj, ?_, ?_, hlen, fun i hi he => ?_⟩
  · rw [h.plx, lpx, e1]; simp only [wK_nat hjl]
  · rw [h.ply, lpy, e1]; simp only [wK_nat hjl]
  · rw [greed_calls h hc, lpt, List.getLast?_eq_getElem?, List.getElem?_eq_getElem (show cs.length - 1 < cs.length by omega)]
    have : i = cs.length - 1 := by omega
    subst this; rfl
theorem greed_hg {a b x y t : Int} {ws : List WorkD} {os : List Int} {px py tt l : Int} (h : GreedS a b x y t ws os px py tt l) {cs : List CallD} (hc : callsF a ws os x y t = some cs) :
    ∀ i, (hi : i < cs.length) → ∃ j : Nat, cs[i].fWork = (j : Int) ∧ ∃ hj : j < ws.length, cs[i].fEnd ≤ ws[j].fUntil ∧ ws[j].fFrom + ws[j].fMinutes ≤ cs[i].fEnd := fun i hi => by
  have hlen := callsF_len hc
  obtain ⟨h1, h2, h3⟩ := callsF_get hc i hi (by omega)
  obtain ⟨j, hj, hjl⟩ := ordB_nat h.ord (show i < os.length by omega)
  rw [hj, wK_nat hjl] at h2 h3
  exact ⟨j, by rw [h1, hj], hjl, h2, h3⟩
theorem step_row {α : Type} {P : Program} {ops : Array Oper} {o : Oper} {a : Act} {K : Act → World → Prop} {Q : Exit → Act → World → Prop} {E : Prop} (hgd : o.guard = none) (s x : Operand) (t : TypeId)
    (ho : o.op = .call { callee := .builtin .append, args := #[s, x], argTypes := #[t, t] }) {e : TypeId} {n B : Nat} {enc : α → List Value} (i : TypeInfo) (z : Value) (bytes : Nat) (ht : P.underlying t = some (.slice e)) (hi : P.info? e = some i) (hz : i.zero = some z)
    (hsize : i.size = n) (hby : i.bytes = bytes) (hzs : z.cells.size = n) (hsz : 0 < n) (hn : ∀ y, (enc y).length = n) {w : World} (v : Value) {xs : List α} (y : α) (hs : a.eval s = v) (ad : Addr)
    (hO : w.ownsRow B e n v xs.length (xs.flatMap enc)) (c : Nat) (hx : a.eval x = .slice (some ad) 1 c) (hnews : ∀ j u, (enc y)[j]? = some u → w.cell? (ad.add j) = some u) (h1 : ∀ u ∈ enc y, u.oneCell' = true) (h63 : xs.length + 1 ≤ maxLen) (hbytes : (xs.length + 1) * bytes ≤ 140737488355328) (hB : B ≤ w.heap.size)
    (h : ∀ v' w', w'.ownsRow B e n v' (xs ++ [y]).length ((xs ++ [y]).flatMap enc) → w.grownBy w' v.ownBlock → (v'.ownBlock = v.ownBlock ∨ v'.ownBlock = some w.heap.size) → K (a.put o.dst v') w') : if Region.wanted o (yielded ops a.tmps) = true then Oper.wp P o a w K Q else E := by
  have hw : Region.wanted o (yielded ops a.tmps) = true := by simp [Region.wanted, hgd]
  rw [if_pos hw]
  obtain ⟨v', w', hrun, hown, hgr, _, hat⟩ := run_append_own_at (P := P) w B t o.type e i z n bytes ht hi hz hsize hby hzs hsz v xs.length _ hO ad 1 c (enc y) (by rw [hn]; omega) hnews h1 h63 hbytes hB
  unfold Oper.wp
  simp [execOp, ho, resolve, invoke, builtin, hs, hx, hrun, Result.andThen]
  refine h v' w' ?_ hgr hat
  rw [List.flatMap_append, List.length_append]; simpa using hown
theorem owns_cut' {w : World} {B e n m : Nat} {α : Type} {enc : α → List Value} (hn : ∀ z, (enc z).length = n) {xs : List α} {z : α} {ad : Option Addr} {cap : Nat} (hm : m = xs.length) (h : w.ownsRow B e n (.slice ad (m + 1) cap) (xs ++ [z]).length ((xs ++ [z]).flatMap enc)) : w.ownsRow B e n (.slice ad m cap) xs.length (xs.flatMap enc) := by
  subst hm
  rw [List.length_append, List.length_singleton] at h
  exact owns_cut (v := .slice none 0 0) hn h
theorem env_load {B bs : Nat} {a b : Int} {adl : Option Addr} {cpl : Nat} {ws : List WorkD} {w : World} (h : Env B bs a b (.slice adl ws.length cpl) ws w) {bl ol : Nat} (e : adl = some ⟨bl, ol, none⟩) {k : Nat} (hk : k < ws.length) : w.cell? ⟨bl, ol + k * 7 + 3, none⟩ = some (.int .i64 ws[k].fLoad) := by
  obtain ⟨ad', cp', b', o', e3, -, had, hx⟩ := h.sl.uni
  injection e3 with e3 e31 e32
  obtain ⟨k3, -⟩ := had (by omega)
  rw [e3, k3] at e; injection e with e; injection e with e1 e2 e4
  subst e1; subst e2
  have := hx k hk 3 (by omega)
  simpa [encWork] using this
theorem row_form {w : World} {B e n len : Nat} {v : Value} {α : Type} {enc : α → List Value} (hn : ∀ z, (enc z).length = n) {xs : List α} (h : w.ownsRow B e n v len (xs.flatMap enc)) (hl : len = xs.length) (h0 : 0 < len) : ∃ g cap, v = .slice (some ⟨g, 0, none⟩) len cap ∧ len ≤ cap ∧ cap ≤ maxLen := by
  rcases h.2 with ⟨-, e⟩ | ⟨g, cap, cur, e, -, -, h1, h2, -⟩
  · omega
  · exact ⟨g, cap, e, h1, h2⟩
theorem m3_near {w : World} {X : Nat} {vO vC vO' vC' : Value} (hO : Near w vO vO') (hC : Near w vC vC') (g : Nat) (hg : g < w.heap.size) (h : M3 X vO' vC' g) : M3 X vO vC g := by
  rcases h with h | h | h
  · exact .inl h
  · exact .inr (.inl (hO.old hg h))
  · exact .inr (.inr (hC.old hg h))
theorem blk_m3 {B X bs Y : Nat} {x y t bq mode : Int} {lv : Value} {w : World} {os : List Int} {cs : List CallD} {l : Int} {A : SpA} {nodes : Int} {vO vC vB : Value} {least : Int} (h : XS B X bs x y t bq mode lv w os cs l A nodes vO vC vB least) {T : TypeId} {us : List Value} (hb : Blk w Y T us) (h1 : T ≠ 110) (h2 : T ≠ 2) (h3 : vC.ownBlock ≠ some Y) : ¬ M3 X vO vC Y := fun e => by
  rcases e with e | e | e
  · exact blk_ne hb h.blk h1 e
  · exact own_apart h.ord hb (fun e => h2 e.symm) e
  · exact h3 e
theorem near_new {w : World} {v v' : Value} {g : Nat} (h : v'.ownBlock = v.ownBlock ∨ v'.ownBlock = some g) (hg : w.heap.size ≤ g) : Near w v v' := h.imp id fun e b hb => by rw [e] at hb; injection hb with hb; omega
set_option maxHeartbeats 8000000 in
theorem c_visit (B X bs : Nat) (a b x y t bq mode : Int) (adl : Option Addr) (cpl : Nat) (ws : List WorkD) (hBX : B ≤ X) (hm : mode = 1 ∨ mode = 2 ∨ mode = 4) (h1 : 1 ≤ a) (h2 : a ≤ 2000) (hw : worksB ws = true) (hp : pointB x y = true) (hbq0 : 0 ≤ bq) (hbq1 : bq ≤ 20000) (ht0 : 0 ≤ t) (ht1 : t ≤ 4320) (n : Nat) :
    ∀ (os : List Int) (cs : List CallD) (pqx pqy tqq l : Int) (w : World) (q : Nat) (A : SpA) (N : Int) (vO vC vB : Value) (least : Int), os.length + n = ws.length + 1 → GreedS a b x y t ws os pqx pqy tqq l → callsF a ws os x y t = some cs → 0 ≤ tqq → tqq ≤ 4320 → pointB pqx pqy = true → 0 ≤ l → l ≤ 1000 → b ≤ 1000 →
      XS B X bs x y t bq mode (.slice adl ws.length cpl) w os cs l A N vO vC vB least → N + q = bq → 0 ≤ N → Env B bs a b (.slice adl ws.length cpl) ws w →
      Calls Try.prog 111 #[.pointer (some ⟨X, 0, none⟩)] w fun e w' => VisitR B X bs x y t bq mode (.slice adl ws.length cpl) os cs l vO vC w w' (goF (takeF mode ws.length) (treeF (mayB a b x y ws t) ws.length n os) q A) e := by
  induction n with
  | zero => intro os cs pqx pqy tqq l w q A N vO vC vB least hn hF; have := (show FineO a b x y t ws os from ⟨_, _, _, _, hF⟩).len; omega
  | succ n ih =>
    intro os cs pqx pqy tqq l w q A N vO vC vB least hn hF hc ht2 ht3 hpp hl0 hl1 hb1 hX hN hN0 hE
    obtain ⟨i0, hi, iz0, iz1, iz2⟩ := info_parts info_Int64
    obtain ⟨j0, hj, jz0, jz1, jz2⟩ := info_parts info_Call
    have h12 := (works_all hw).1
    have HW := hid (fun (j : Nat) (hj : j < ws.length) => workD_true ((works_all hw).2 j hj))
    have hos : os.length ≤ ws.length := (show FineO a b x y t ws os from ⟨_, _, _, _, hF⟩).len
    have hcs := callsF_len hc
    have HF := hid hF
    have HC := hid hc
    have HX := hid hX
    have HE := hid hE
    have IH := hid ih
    have HN := hid hN
    have HM3 := hid (m3_low hX hBX)
    obtain ⟨adO, capO, hOf⟩ := hX.slO.1.form
    subst hOf
    obtain ⟨adC, capC, hCf⟩ := hX.slC.1.form
    rw [hcs] at hCf
    subst hCf
    have hXl := hX.blk.lt
    have hwN : IntKind.i64.wrap (N + 1) = N + 1 := IntWalk.i64_in _ (by omega)
    have hbs : bs ≠ X := by have := hE.lt; omega
    have b13 := hX.blk.cell 13 rfl
    have b14 := hX.blk.cell 14 rfl
    have fx := hX.blk.fr
    clear hX hE hF hc ih
    by_cases h0 : q = 0
    ·
      as_aux_lemma =>
       have HG := hid (show goF (takeF mode ws.length) (treeF (mayB a b x y ws t) ws.length (n + 1) os) q A = ⟨A, 0, 5⟩ by rw [h0]; exact goF_full _ _ _ _)
       have hd1 : decide (bq < N + 1) = true := by simp; omega
       go_enter Try.func111, Try.ntmps111
       go_wp2
       obtain ⟨W1, hW1⟩ : ∃ z, z = w.setCell ⟨X, 13, none⟩ (.int .i64 (N + 1)) := ⟨_, rfl⟩
       rw [← hW1]
       have HX1 := hid (show XS B X bs x y t bq mode _ W1 os cs l A (bq + 1) _ _ vB least by rw [hW1]; exact HX.out.setX 13 _ (by simp [show N = bq by omega]) rfl)
       have HK1 := hid (show Kept (M3 X (.slice adO os.length capO) (.slice adC os.length capC)) w W1 by rw [hW1]; exact (Kept.refl _ w).set _ _ (.inl rfl))
       have k13 : W1.cell? ⟨X, 13, none⟩ = some (.int .i64 (N + 1)) := by rw [hW1]; exact cell_here b13
       have k14 : W1.cell? ⟨X, 14, none⟩ = some (.int .i64 bq) := by rw [hW1]; exact cell_far b14 (by omega)
       clear hW1 b13 b14 fx
       go_quiet (fail)
       go_wp2
       go_ret
       rw [HG.out]
       exact ⟨_, _, _, _, rfl, HX1.out.below (below_drewN (Below.refl _ _) _), .inl rfl, .inl rfl, HK1.out.trans (Kept.of (below_drewN (Below.refl _ _) _))⟩
    · obtain ⟨q1, hq1⟩ : ∃ q1 : Nat, q = q1 + 1 := ⟨q - 1, by omega⟩
      have HQ1 := hid hq1
      have hd1 : decide (bq < N + 1) = false := by simp; omega
      have hN1 : N + 1 = bq - q1 := by omega
      have HN1 := hid hN1
      clear hq1 hN1
      cases hr : (takeF mode ws.length A os).2
      case' false =>
        have HG := hid (show goF (takeF mode ws.length) (treeF (mayB a b x y ws t) ws.length (n + 1) os) q A = ⟨(takeF mode ws.length A os).1, q1, 6⟩ by rw [treeF, goF_stop h0 hr, HQ1.out]; rfl)
      case' true =>
        have HG := hid (show goF (takeF mode ws.length) (treeF (mayB a b x y ws t) ws.length (n + 1) os) q A = goF (takeF mode ws.length) (leftF (mayB a b x y ws t) ws.length n os 0) q1 (takeF mode ws.length A os).1 by rw [leftF_start, goF_on h0 hr, HQ1.out]; rfl)
      all_goals
        have HR := hid hr
        clear h0 hr
        go_enter Try.func111, Try.ntmps111
        go_wp2
        obtain ⟨W1, hW1⟩ : ∃ z, z = w.setCell ⟨X, 13, none⟩ (.int .i64 (N + 1)) := ⟨_, rfl⟩
        rw [← hW1]
        have HX1 := hid (show XS B X bs x y t bq mode _ W1 os cs l A (N + 1) _ _ vB least by rw [hW1]; exact HX.out.setX 13 _ rfl rfl)
        have HK1 := hid (show Kept (M3 X (.slice adO os.length capO) (.slice adC os.length capC)) w W1 by rw [hW1]; exact (Kept.refl _ w).set _ _ (.inl rfl))
        have HE1 := hid (HE.out.kept HK1.out HM3.out)
        have k13 : W1.cell? ⟨X, 13, none⟩ = some (.int .i64 (N + 1)) := by rw [hW1]; exact cell_here b13
        have k14 : W1.cell? ⟨X, 14, none⟩ = some (.int .i64 bq) := by rw [hW1]; exact cell_far b14 (by omega)
        have hBW : Below W1.heap.size W1 W1 := Below.refl _ _
        clear hW1 b13 b14 fx
        have ct := fun (wq : World) (hb : Below W1.heap.size W1 wq) => c_take B X bs a x y t bq mode (.slice adl ws.length cpl) ws wq os cs l A (N + 1) _ _ vB least (HX1.out.below hb) hBX hm (Nat.lt_of_lt_of_le (Nat.lt_of_lt_of_le HE1.out.lt HE1.out.low) hb.size) hbs (below_cell hb (Nat.lt_of_lt_of_le HE1.out.lt HE1.out.low) HE1.out.c1) h1 h2 (HE1.out.sl.at hb) hw (fun hp k hk => by have := HE1.out.far hp k hk; omega) hp (by omega) (by omega) (greed_hg HF.out HC.out)
        unfold TakeR at ct
        rw [HR.out] at ct
        obtain ⟨A1, hA1⟩ : ∃ A1, A1 = (takeF mode ws.length A os).1 := ⟨_, rfl⟩
        rw [← hA1] at ct HG
        clear hA1 HR
        go_region_held3 (fun w' => w'.cell? ⟨X, 13, none⟩ = some (.int .i64 (N + 1)) ∧ w'.cell? ⟨X, 14, none⟩ = some (.int .i64 bq)) ((first | exact ⟨hX2.blk.cell 13 rfl, hX2.blk.cell 14 rfl⟩ | exact ⟨k13, k14⟩)) (first | (go_at_call 121; refine (ct _ (by (repeat' (first | (with_reducible exact Below.refl _ _) | (with_reducible refine Below.alloc ?_ ?_ _) | (with_reducible refine Below.drew ?_) | (with_reducible refine below_drewN ?_ _) | (with_reducible refine Below.setCell ?_ ?_ _) | (with_reducible refine below_via ‹_› ?_ ?_) | (with_reducible refine below_grow ?_ ?_ _ _) | omega | (simp; done) | (simp; omega))))).mono ?_; rintro e w2 ⟨vB2, least2, rfl, hX2, hK2⟩))
      all_goals have hK2 := (Kept.of (M := fun k => k = X) (show Below W1.heap.size W1 W1.drew by (repeat' (first | (with_reducible exact Below.refl _ _) | (with_reducible refine Below.alloc ?_ ?_ _) | (with_reducible refine Below.drew ?_) | (with_reducible refine below_drewN ?_ _) | (with_reducible refine Below.setCell ?_ ?_ _) | (with_reducible refine below_via ‹_› ?_ ?_) | (with_reducible refine below_grow ?_ ?_ _ _) | omega | (simp; done) | (simp; omega))))).trans hK2
      rotate_left
      · have HX2 := hid hX2
        have HK2 := hid (HK1.out.to hK2 fun g _ e => .inl e)
        have hfx := hX2.blk.fr
        clear hX2 hK2 ct k13 k14
        go_wp2
        go_ret
        rw [HG.out]
        have := HX2.out
        rw [HN1.out] at this
        exact ⟨_, _, _, _, rfl, this, .inl rfl, .inl rfl, HK2.out⟩
      · have HX2 := hid hX2
        have HK2 := hid (HK1.out.to hK2 fun g _ e => .inl e)
        have HE2 := hid (HE1.out.kept hK2 (by intro k e; have e : k = X := e; omega))
        have hXl2 := hX2.blk.lt
        have b1 := hX2.blk.cell 1 rfl; have b2 := hX2.blk.cell 2 rfl; have b3 := hX2.blk.cell 3 rfl; have b4 := hX2.blk.cell 4 rfl; have b6 := hX2.blk.cell 6 rfl; have b7 := hX2.blk.cell 7 rfl; have fx := hX2.blk.fr
        clear hX2 hK2 ct k13 k14
        clear hwN
        go_upto_if 45 with fail
        obtain ⟨W3, hW3⟩ : ∃ z, z = w2.alloc (Obj.cells #[.int .i64 x, .int .i64 y] 33) := ⟨_, rfl⟩
        rw [← hW3]
        have hB3 : Below w2.heap.size w2 W3 := by rw [hW3]; (repeat' (first | (with_reducible exact Below.refl _ _) | (with_reducible refine Below.alloc ?_ ?_ _) | (with_reducible refine Below.drew ?_) | (with_reducible refine below_drewN ?_ _) | (with_reducible refine Below.setCell ?_ ?_ _) | (with_reducible refine below_via ‹_› ?_ ?_) | (with_reducible refine below_grow ?_ ?_ _ _) | omega | (simp; done) | (simp; omega)))
        have HX3 := hid (HX2.out.below hB3)
        have HP3 := hid (show Blk W3 w2.heap.size 33 [.int .i64 x, .int .i64 y] by rw [hW3]; exact blk_alloc _ _ _)
        obtain ⟨pB, hpB⟩ : ∃ p, p = w2.heap.size := ⟨_, rfl⟩
        rw [← hpB] at HP3 ⊢
        have hpw : w.heap.size ≤ pB := by rw [hpB]; exact HK2.out.size
        have HPB := hid hpB
        have hpX : X ≠ pB := by omega
        clear hW3 b1 b2 b3 b4 b6 b7 fx
        go_cut [4] (fun s4 wx => s4 = .int .i64 tqq ∧ Blk wx pB 33 [.int .i64 pqx, .int .i64 pqy] ∧ Below w2.heap.size w2 wx)
        case first =>
          by_cases hz : os.length = 0
          ·
            as_aux_lemma =>
             have hzb : ((os.length : Int) == 0) = true := by rw [hz]; rfl
             have hzd : decide ((0 : Int) < os.length) = false := decide_eq_false (by omega)
             have hze : decide (0 < os.length) = false := decide_eq_false (by omega)
             have hon : os = [] := List.eq_nil_of_length_eq_zero hz
             have g1 := hid (show pqx = x by rw [HF.out.plx, hon]; rfl)
             have g2 := hid (show pqy = y by rw [HF.out.ply, hon]; rfl)
             have g3 := hid (show tqq = t by rw [greed_calls HF.out HC.out, List.eq_nil_of_length_eq_zero (hcs.trans hz)]; rfl)
             have HB3 := hid hB3
             clear hon hz hpB hB3
             (try rw [hze]); (try rw [hzd])
             go_wp2_with fail
             go_meet
             rw [g1.out, g2.out, g3.out]
             exact ⟨rfl, HP3.out, HB3.out⟩
          ·
            as_aux_lemma =>
             have h0l : 0 < os.length := by omega
             have hzd : decide ((0 : Int) < os.length) = true := decide_eq_true (by omega)
             have hze : decide (0 < os.length) = true := decide_eq_true (by omega)
             have hzI : (0 : Int) < os.length := by omega
             obtain ⟨j, hjl, hjo, hpx, hpy, -, hce⟩ := greed_last HF.out HC.out h0l
             obtain ⟨adO', capO', bO, oO, e1, -, hadO, hxO⟩ := HX2.out.slO.1.uni
             obtain ⟨k1, hbO, -, hcO, hmO⟩ := hadO h0l
             rw [k1] at e1
             obtain ⟨adC', capC', bC, oC, e2, -, hadC, hxC⟩ := HX2.out.slC.1.uni
             obtain ⟨k2, hbC, -, hcC, hmC⟩ := hadC (by omega)
             rw [k2] at e2
             obtain ⟨adl', cpl', bl, ol, e3, -, hadl, hxl⟩ := HE2.out.sl.uni
             obtain ⟨k3, hbl, -, hcl, hml⟩ := hadl (by omega)
             rw [k3] at e3
             injection e1 with e1 e11 e12
             injection e2 with e2 e21 e22
             injection e3 with e3 e31 e32
             subst e12; subst e22; subst e32
             have x0 := hxO (os.length - 1) (by omega) 0 (by omega)
             simp only [encI, List.getD_cons_zero, Nat.add_zero, Nat.mul_one, hjo] at x0
             have x1 := hxl j hjl 1 (by omega)
             have x2 := hxl j hjl 2 (by omega)
             simp only [encWork, List.getD_cons_zero, List.getD_cons_succ, ← hpx, ← hpy] at x1 x2
             have x3 := hxC (os.length - 1) (by omega) 3 (by omega)
             simp only [encCall, List.getD_cons_zero, List.getD_cons_succ, hce (os.length - 1) (by omega) (by omega)] at x3
             clear hxO hxC hxl hadO hadC hadl e11 e21 e31 k1 k2 k3 hjo hpx hpy hce
             have hkn : ((os.length : Int) - 1).toNat = os.length - 1 := by omega
             have hk1 : (1 : Int) ≤ os.length := by omega
             have hk2 : (os.length : Int) - 1 < os.length := by omega
             have hkw : IntKind.i64.wrap ((os.length : Int) - 1) = (os.length : Int) - 1 := IntWalk.i64_in _ (by omega)
             have hjI : (j : Int) < ws.length := by omega
             have z0 := below_cell hB3 hbO x0
             have z1 := below_cell hB3 hbl x1
             have z2 := below_cell hB3 hbl x2
             have z3 := below_cell hB3 hbC x3
             have z6 : W3.cell? ⟨X, 6, none⟩ = some (.slice (some ⟨bO, oO, none⟩) os.length capO) := by rw [← e1]; exact HX3.out.blk.cell 6 rfl
             have z7 : W3.cell? ⟨X, 7, none⟩ = some (.slice (some ⟨bC, oC, none⟩) os.length capC) := by rw [← e2]; exact HX3.out.blk.cell 7 rfl
             have z33 : W3.cell? ⟨X, 3, none⟩ = some (.slice (some ⟨bl, ol, none⟩) ws.length cpl) := by rw [← e3]; exact HX3.out.blk.cell 3 rfl
             have hpO : bO ≠ pB := by omega
             have hpl : bl ≠ pB := by omega
             have hpC : bC ≠ pB := by omega
             have kb0 : ∀ w', But pB W3 w' → w'.cell? ⟨bO, oO + (os.length - 1), none⟩ = some (.int .i64 j) := fun w' h => h.cell z0 hpO
             have kb1 : ∀ w', But pB W3 w' → w'.cell? ⟨bl, ol + j * 7 + 1, none⟩ = some (.int .i64 pqx) := fun w' h => h.cell z1 hpl
             have kb2 : ∀ w', But pB W3 w' → w'.cell? ⟨bl, ol + j * 7 + 2, none⟩ = some (.int .i64 pqy) := fun w' h => h.cell z2 hpl
             have kb3 : ∀ w', But pB W3 w' → w'.cell? ⟨bC, oC + (os.length - 1) * 4 + 3, none⟩ = some (.int .i64 tqq) := fun w' h => h.cell z3 hpC
             have kb6 : ∀ w', But pB W3 w' → w'.cell? ⟨X, 6, none⟩ = some (.slice (some ⟨bO, oO, none⟩) os.length capO) := fun w' h => h.cell z6 hpX
             have kb7 : ∀ w', But pB W3 w' → w'.cell? ⟨X, 7, none⟩ = some (.slice (some ⟨bC, oC, none⟩) os.length capC) := fun w' h => h.cell z7 hpX
             have kb33 : ∀ w', But pB W3 w' → w'.cell? ⟨X, 3, none⟩ = some (.slice (some ⟨bl, ol, none⟩) ws.length cpl) := fun w' h => h.cell z33 hpX
             have fp := HP3.out.fr
             have p0 : W3.cell? ⟨pB, 0, none⟩ = some (.int .i64 x) := HP3.out.cell 0 rfl
             have p1 : W3.cell? ⟨pB, 1, none⟩ = some (.int .i64 y) := HP3.out.cell 1 rfl
             clear e1 e2 e3 hpB x0 x1 x2 x3
             (try rw [hze]); (try rw [hzd])
             go_wp2_with fail
             go_region_held3 (fun w' => But pB W3 w') ((repeat' (first | exact But.refl _ _ | refine But.drew ?_ | refine But.drewN ?_ _ | refine But.set ?_))) (fail)
             obtain ⟨WL, hWL⟩ : ∃ z, z = ((W3.setCell ⟨pB, 0, none⟩ (.int .i64 pqx)).setCell ⟨pB, 1, none⟩ (.int .i64 pqy)).drew := ⟨_, rfl⟩
             rw [← hWL]
             have hgL : W3.grownBy WL (some pB) := by rw [hWL]; exact (But.set (But.set (But.refl _ _))).drew
             have q7 : WL.cell? ⟨X, 7, none⟩ = some (.slice (some ⟨bC, oC, none⟩) os.length capC) := kb7 _ hgL
             have q3 : WL.cell? ⟨bC, oC + (os.length - 1) * 4 + 3, none⟩ = some (.int .i64 tqq) := kb3 _ hgL
             have HPL := hid (show Blk WL pB 33 [.int .i64 pqx, .int .i64 pqy] by rw [hWL]; exact (HP3.out.set 0 _).set 1 _)
             have hKp : Kept (fun _ => False) w2 WL := (Kept.of (M := fun _ => False) hB3).to (Kept.ofGrown hgL) fun g hg e => by
               have e : some pB = some g := e
               injection e with e; have := HPB.out; omega
             have HBL := hid (show Below w2.heap.size w2 WL from ⟨hKp.os, hKp.tape, hKp.output, hKp.size, fun k hk => hKp.block k hk fun h => h⟩)
             clear kb0 kb1 kb2 kb3 kb6 kb7 kb33 z0 z1 z2 z3 z6 z7 z33 p0 p1 fp hWL hgL hKp hB3 hpO hpl hpC
             have h0lI : ((os.length : Int) == 0) = false := by rw [beq_eq_false_iff_ne]; omega
             go_wp2_with fail
             go_meet
             exact ⟨rfl, HPL.out, HBL.out⟩
        case rest =>
          obtain ⟨rfl, hPL, hBL⟩ := hcut
          obtain ⟨WL, rfl⟩ : ∃ z : World, z = wc := ⟨_, rfl⟩
          have HPL := hid hPL
          have HXL := hid (HX2.out.below hBL)
          have HEL := hid (HE2.out.kept (Kept.of (M := fun k => k = X) hBL) (by intro k e; have e : k = X := e; omega))
          have HKL := hid (HK2.out.trans (Kept.of hBL))
          clear hPL hBL hB3 HX3 HP3 hpX hXl2 hpB
          go_wp2
          go_loopw [6] (fun i wr => ∃ (k q' : Nat) (A' : SpA) (vO vC vB : Value) (least : Int), k ≤ ws.length ∧ i = .int .i64 k ∧ q' ≤ q1 ∧ XS B X bs x y t bq mode (.slice adl ws.length cpl) wr os cs l A' (bq - q') vO vC vB least ∧ Near w (.slice adO os.length capO) vO ∧ Near w (.slice adC os.length capC) vC ∧ Kept (M3 X (.slice adO os.length capO) (.slice adC os.length capC)) w wr ∧ Blk wr pB 33 [.int .i64 pqx, .int .i64 pqy] ∧
            goF (takeF mode ws.length) (treeF (mayB a b x y ws t) ws.length (n + 1) os) q A = goF (takeF mode ws.length) (leftF (mayB a b x y ws t) ws.length n os k) q' A') (fun i _ => ws.length - (intOf i).toNat)
          case atStart => exact ⟨0, q1, A1, _, _, vB2, least2, Nat.zero_le _, rfl, Nat.le_refl _, by have := HXL.out; rw [HN1.out] at this; exact this, .inl rfl, .inl rfl, HKL.out, HPL.out, HG.out⟩
          case round =>
            clear HXL HEL HKL HPL
            obtain ⟨k, q', A', vO, vC, vB', least', hk, rfl, hq', hX, hnO, hnC, hK, hP, hG⟩ := hrel
            have HX' := hid hX
            have HNO := hid hnO
            have HNC := hid hnC
            have HK := hid hK
            have HP := hid hP
            have HG' := hid hG
            have HEr := hid (HE.out.kept hK HM3.out)
            have hzr := hK.size
            have hpX : pB ≠ X := fun e => blk_ne hP hX.blk (by decide) e
            obtain ⟨adO2, cO2, hOf⟩ := hX.slO.1.form
            subst hOf
            obtain ⟨adC2, cC2, hCf⟩ := hX.slC.1.form
            rw [hcs] at hCf
            subst hCf
            have c0 : wr.cell? ⟨X, 0, none⟩ = some (.pointer (some ⟨bs, 0, none⟩)) := hX.blk.cell 0 rfl
            have c3 : wr.cell? ⟨X, 3, none⟩ = some (.slice adl ws.length cpl) := hX.blk.cell 3 rfl
            have c6 : wr.cell? ⟨X, 6, none⟩ = some (.slice adO2 os.length cO2) := hX.blk.cell 6 rfl
            have c8 : wr.cell? ⟨X, 8, none⟩ = some (.int .i64 l) := hX.blk.cell 8 rfl
            have hSO : SlA wr 0 1 encI (.slice adO2 os.length cO2) os := hX.slO.1.mono (Nat.zero_le _)
            have hXl := hX.blk.lt
            have hPl := hP.lt
            have p0 : wr.cell? ⟨pB, 0, none⟩ = some (.int .i64 pqx) := hP.cell 0 rfl
            have p1 : wr.cell? ⟨pB, 1, none⟩ = some (.int .i64 pqy) := hP.cell 1 rfl
            clear hX hnO hnC hK hP hG
            by_cases hlt : k < ws.length
            · have hlI : (k : Int) < ws.length := by omega
              obtain ⟨adl', cpl', bl, ol, e3, -, hadl, hxl⟩ := HEr.out.sl.uni
              obtain ⟨k3, hbl, -, hcl, hml⟩ := hadl (by omega)
              injection e3 with e3 e31 e32
              rw [k3] at e3
              have x3 := hxl k hlt 3 (by omega)
              simp only [encWork, List.getD_cons_zero, List.getD_cons_succ] at x3
              obtain ⟨hpt, l0, l1, m0, m1, f0, f1, u0, u1⟩ := HW.out k hlt
              have hwl : IntKind.i64.wrap (l + ws[k].fLoad) = l + ws[k].fLoad := IntWalk.i64_in _ (by omega)
              have s2 := HEr.out.c2
              have s1 := HEr.out.c1
              have hbsl : bs < wr.heap.size := Nat.lt_of_lt_of_le HEr.out.lt HEr.out.low
              have HE3 := hid (And.intro e3 e32)
              rw [e3] at c3
              have hcl2 : (ws.length : Int) ≤ cpl := by omega
              clear hxl hadl e31 k3 e3
              have HNX := hid (show endK a b x y ws t os k = if hasB os k then none else if l + ws[k].fLoad > b then none else if (mkC a pqx pqy tqq k ws[k]).fEnd ≤ ws[k].fUntil then some (mkC a pqx pqy tqq k ws[k]).fEnd else none by
                rw [HF.out.eq, nextE, wK_nat hlt, ldA_nat hlt])
              have r0 := cellr c0
              have r3 := cellr c3
              have r6 := cellr c6
              have r8 := cellr c8
              have rx := cellr x3
              have r2 := cellr s2
              clear e32
              cases hh : hasB os k
              · cases hld : decide (b < l + ws[k].fLoad)
                · have hld2 : ¬ l + ws[k].fLoad > b := by have := of_decide_eq_false hld; omega
                  have cc := fun (wq : World) hbk q1 h => c_l25Call bs 0 a pqx pqy tqq (.slice adl ws.length cpl) ws k wq hbk q1 h1 h2 h hw hlt hpp ht2 ht3
                  obtain ⟨C, hC⟩ : ∃ C, C = mkC a pqx pqy tqq k ws[k] := ⟨_, rfl⟩
                  have HNY := hid (show endK a b x y ws t os k = if C.fEnd ≤ ws[k].fUntil then some C.fEnd else none by rw [HNX.out, hh, if_neg hld2, hC]; rfl)
                  have HCW := hid (show C.fWork = (k : Int) by rw [hC]; rfl)
                  rw [← hC] at cc
                  have HCC := hid hC
                  clear hC HNX
                  obtain ⟨okb, hq⟩ : ∃ o, decide (C.fEnd ≤ ws[k].fUntil) = o := ⟨_, rfl⟩
                  rw [hq] at cc
                  have HQK := hid hq
                  clear hq
                  go_wp2
                  (refine wp_region_quiet_below (by kernel_rfl) (by kernel_rfl) ?_; (repeat (first | go_big_quiet_step ((first | (go_at_call 63; first | exact regrown_bool (c_l00Has _ _ _ _ (by first | (with_reducible assumption) | (with_reducible apply SlO.at; (with_reducible assumption); (repeat' (first | (with_reducible exact Below.refl _ _) | (with_reducible refine Below.alloc ?_ ?_ _) | (with_reducible refine Below.drew ?_) | (with_reducible refine below_drewN ?_ _) | (with_reducible refine Below.setCell ?_ ?_ _) | (with_reducible refine below_via ‹_› ?_ ?_) | (with_reducible refine below_grow ?_ ?_ _ _) | omega | (simp; done) | (simp; omega))); done) | (with_reducible apply SlA.at; (with_reducible assumption); (repeat' (first | (with_reducible exact Below.refl _ _) | (with_reducible refine Below.alloc ?_ ?_ _) | (with_reducible refine Below.drew ?_) | (with_reducible refine below_drewN ?_ _) | (with_reducible refine Below.setCell ?_ ?_ _) | (with_reducible refine below_via ‹_› ?_ ?_) | (with_reducible refine below_grow ?_ ?_ _ _) | omega | (simp; done) | (simp; omega))); done))) (by assumption) | exact regrown_of (c_l00Has _ _ _ _ (by first | (with_reducible assumption) | (with_reducible apply SlO.at; (with_reducible assumption); (repeat' (first | (with_reducible exact Below.refl _ _) | (with_reducible refine Below.alloc ?_ ?_ _) | (with_reducible refine Below.drew ?_) | (with_reducible refine below_drewN ?_ _) | (with_reducible refine Below.setCell ?_ ?_ _) | (with_reducible refine below_via ‹_› ?_ ?_) | (with_reducible refine below_grow ?_ ?_ _ _) | omega | (simp; done) | (simp; omega))); done) | (with_reducible apply SlA.at; (with_reducible assumption); (repeat' (first | (with_reducible exact Below.refl _ _) | (with_reducible refine Below.alloc ?_ ?_ _) | (with_reducible refine Below.drew ?_) | (with_reducible refine below_drewN ?_ _) | (with_reducible refine Below.setCell ?_ ?_ _) | (with_reducible refine below_via ‹_› ?_ ?_) | (with_reducible refine below_grow ?_ ?_ _ _) | omega | (simp; done) | (simp; omega))); done)))))) | quiet_step ((first | (go_at_call 63; first | exact regrown_bool (c_l00Has _ _ _ _ (by first | (with_reducible assumption) | (with_reducible apply SlO.at; (with_reducible assumption); (repeat' (first | (with_reducible exact Below.refl _ _) | (with_reducible refine Below.alloc ?_ ?_ _) | (with_reducible refine Below.drew ?_) | (with_reducible refine below_drewN ?_ _) | (with_reducible refine Below.setCell ?_ ?_ _) | (with_reducible refine below_via ‹_› ?_ ?_) | (with_reducible refine below_grow ?_ ?_ _ _) | omega | (simp; done) | (simp; omega))); done) | (with_reducible apply SlA.at; (with_reducible assumption); (repeat' (first | (with_reducible exact Below.refl _ _) | (with_reducible refine Below.alloc ?_ ?_ _) | (with_reducible refine Below.drew ?_) | (with_reducible refine below_drewN ?_ _) | (with_reducible refine Below.setCell ?_ ?_ _) | (with_reducible refine below_via ‹_› ?_ ?_) | (with_reducible refine below_grow ?_ ?_ _ _) | omega | (simp; done) | (simp; omega))); done))) (by assumption) | exact regrown_of (c_l00Has _ _ _ _ (by first | (with_reducible assumption) | (with_reducible apply SlO.at; (with_reducible assumption); (repeat' (first | (with_reducible exact Below.refl _ _) | (with_reducible refine Below.alloc ?_ ?_ _) | (with_reducible refine Below.drew ?_) | (with_reducible refine below_drewN ?_ _) | (with_reducible refine Below.setCell ?_ ?_ _) | (with_reducible refine below_via ‹_› ?_ ?_) | (with_reducible refine below_grow ?_ ?_ _ _) | omega | (simp; done) | (simp; omega))); done) | (with_reducible apply SlA.at; (with_reducible assumption); (repeat' (first | (with_reducible exact Below.refl _ _) | (with_reducible refine Below.alloc ?_ ?_ _) | (with_reducible refine Below.drew ?_) | (with_reducible refine below_drewN ?_ _) | (with_reducible refine Below.setCell ?_ ?_ _) | (with_reducible refine below_via ‹_› ?_ ?_) | (with_reducible refine below_grow ?_ ?_ _ _) | omega | (simp; done) | (simp; omega))); done)))))))); refine wpQuiet_nil ?_; intro w1 hw'; have hb := below_of_regrown hw'; clear hw'; obtain ⟨hc, hf⟩ := bcell hb; have hz := hb.size; (try simp at hz); (try have hz0 : ∀ b, b < w.heap.size → b < w1.heap.size := fun b h => by omega); (try have hz1 : w.heap.size < w1.heap.size := by omega); (try have hz2 : w.heap.size + 1 < w1.heap.size := by omega); (try have hz3 : w.heap.size + 2 < w1.heap.size := by omega))
                  go_upto_region 14 with fail
                  have HX1' := hid (HX'.out.below hb)
                  have HP1 := hid (HP.out.kept (Kept.of (M := fun _ => False) hb) (fun h => h))
                  have HK1' := hid (HK.out.trans (Kept.of (M := M3 X (.slice adO os.length capO) (.slice adC os.length capC)) hb))
                  have hE1 := HEr.out.kept (Kept.of (M := fun k => k = X) hb) (by intro k e; have e : k = X := e; omega)
                  have HE1' := hid hE1
                  have hx1 := HX1'.out.blk.lt
                  have hp1 := HP1.out.lt
                  have hb1s : bs < w1.heap.size := Nat.lt_of_lt_of_le hE1.lt hE1.low
                  have hsl1 : SlA w1 0 7 encWork (.slice adl ws.length cpl) ws := hE1.sl
                  have d0 := below_cell hb hXl c0
                  have d3 := below_cell hb hXl c3
                  have dp0 := below_cell hb hPl p0
                  have dp1 := below_cell hb hPl p1
                  have ds1 := below_cell hb hbsl s1
                  have kb0 : ∀ w', Since w1 w' → w'.cell? ⟨X, 0, none⟩ = some (.pointer (some ⟨bs, 0, none⟩)) := fun w' hh => below_cell hh.out hx1 d0
                  have kb3 : ∀ w', Since w1 w' → w'.cell? ⟨X, 3, none⟩ = some (.slice (some ⟨bl, ol, none⟩) ws.length cpl) := fun w' hh => below_cell hh.out hx1 d3
                  have kp0 : ∀ w', Since w1 w' → w'.cell? ⟨pB, 0, none⟩ = some (.int .i64 pqx) := fun w' hh => below_cell hh.out hp1 dp0
                  have kp1 : ∀ w', Since w1 w' → w'.cell? ⟨pB, 1, none⟩ = some (.int .i64 pqy) := fun w' hh => below_cell hh.out hp1 dp1
                  rw [HE3.out.1] at hsl1 cc
                  clear c0 c3 c6 c8 p0 p1 x3 s1 s2 r0 r3 r6 r8 rx r2 hc hf hz d0 d3 dp0 dp1 hE1 hwl
                  go_cut [7, 8] (fun s7 s8 wx => ∃ cB : Nat, s7 = .pointer (some ⟨cB, 0, none⟩) ∧ s8 = .bool okb ∧ Below w1.heap.size w1 wx ∧ Blk wx cB 42 [.int .i64 (k : Int), .int .i64 C.fArrive, .int .i64 C.fBegin, .int .i64 C.fEnd] ∧ w1.heap.size ≤ cB)
                  case first =>
                    as_aux_lemma =>
                     go_region_held3 (fun w' => Since w1 w') ((refine since_of ?_; (repeat' (first | (with_reducible exact Below.refl _ _) | (with_reducible refine Below.alloc ?_ ?_ _) | (with_reducible refine Below.drew ?_) | (with_reducible refine below_drewN ?_ _) | (with_reducible refine Below.setCell ?_ ?_ _) | (with_reducible refine below_via ‹_› ?_ ?_) | (with_reducible refine below_grow ?_ ?_ _ _) | omega | (simp; done) | (simp; omega))))) (first | (go_at_call 64; refine (cc _ (by first | omega | (simp; done) | (simp; omega)) (below_cell (w := w1) (by (repeat' (first | (with_reducible exact Below.refl _ _) | (with_reducible refine Below.alloc ?_ ?_ _) | (with_reducible refine Below.drew ?_) | (with_reducible refine below_drewN ?_ _) | (with_reducible refine Below.setCell ?_ ?_ _) | (with_reducible refine below_via ‹_› ?_ ?_) | (with_reducible refine below_grow ?_ ?_ _ _) | omega | (simp; done) | (simp; omega)))) hb1s ds1) (by apply SlA.at hsl1; (repeat' (first | (with_reducible exact Below.refl _ _) | (with_reducible refine Below.alloc ?_ ?_ _) | (with_reducible refine Below.drew ?_) | (with_reducible refine below_drewN ?_ _) | (with_reducible refine Below.setCell ?_ ?_ _) | (with_reducible refine below_via ‹_› ?_ ?_) | (with_reducible refine below_grow ?_ ?_ _ _) | omega | (simp; done) | (simp; omega))))).mono ?_; rintro e w4 ⟨rfl, hb4⟩; obtain ⟨hc4, hf4⟩ := bcell hb4; have hz4 := hb4.size; (try simp at hz4); (try have hy : w.heap.size < w4.heap.size := by omega); (try have hy : w.heap.size ≤ w4.heap.size := by omega); (try have hy : w.heap.size + 1 < w4.heap.size := by omega); (try have hy : w.heap.size + 1 ≤ w4.heap.size := by omega); (try have hy : w.heap.size + 2 < w4.heap.size := by omega); (try have hy : w.heap.size + 2 ≤ w4.heap.size := by omega); (try have hy : w1.heap.size < w4.heap.size := by omega); (try have hy : w1.heap.size ≤ w4.heap.size := by omega); (try have hy : w2.heap.size < w4.heap.size := by omega); (try have hy : w2.heap.size ≤ w4.heap.size := by omega); (try have hy : w3.heap.size < w4.heap.size := by omega); (try have hy : w3.heap.size ≤ w4.heap.size := by omega)))
                     all_goals first
                       | (go_wp2_with fail; go_meet; exact ⟨w4.heap.size, rfl, rfl, by (repeat' (first | (with_reducible exact Below.refl _ _) | (with_reducible refine Below.alloc ?_ ?_ _) | (with_reducible refine Below.drew ?_) | (with_reducible refine below_drewN ?_ _) | (with_reducible refine Below.setCell ?_ ?_ _) | (with_reducible refine below_via ‹_› ?_ ?_) | (with_reducible refine below_grow ?_ ?_ _ _) | omega | (simp; done) | (simp; omega))), blk_alloc _ _ _, hz4⟩)
                       | (go_wp2_with fail; go_meet
                          refine ⟨w1.heap.size, rfl, rfl, by (repeat' (first | (with_reducible exact Below.refl _ _) | (with_reducible refine Below.alloc ?_ ?_ _) | (with_reducible refine Below.drew ?_) | (with_reducible refine below_drewN ?_ _) | (with_reducible refine Below.setCell ?_ ?_ _) | (with_reducible refine below_via ‹_› ?_ ?_) | (with_reducible refine below_grow ?_ ?_ _ _) | omega | (simp; done) | (simp; omega))), ?_, Nat.le_refl _⟩
                          have h0 := ((blk_alloc w1 [.int .i64 0, .int .i64 0, .int .i64 0, .int .i64 0] 42).kept (M := fun _ => False) (Kept.trans (Kept.of (Below.drew (Below.refl _ _))) (Kept.of hb4)) (fun h => h))
                          exact (((h0.set 0 _).set 1 _).set 2 _).set 3 _)
                  case rest =>
                    obtain ⟨cB, rfl, rfl, hB5, hQ5, hcw⟩ := hcut
                    obtain ⟨wv, rfl⟩ : ∃ z : World, z = wc := ⟨_, rfl⟩
                    clear kb0 kb3 kp0 kp1 cc
                    have HX5 := hid (HX1'.out.below hB5)
                    have HP5 := hid (HP1.out.kept (Kept.of (M := fun _ => False) hB5) (fun h => h))
                    have HK5 := hid (HK1'.out.trans (Kept.of (M := M3 X (.slice adO os.length capO) (.slice adC os.length capC)) hB5))
                    have HE5 := hid (HE1'.out.kept (Kept.of (M := fun k => k = X) hB5) (by intro k e; have e : k = X := e; omega))
                    have HQ5 := hid hQ5
                    have hzw : wr.heap.size ≤ w1.heap.size := hb.size
                    have hz5 : w1.heap.size ≤ wv.heap.size := hB5.size
                    have hC5 : ∀ g, (Value.slice adC2 os.length cC2).ownBlock = some g → g < wr.heap.size := fun g e => by
                      obtain ⟨cur, h3, -⟩ := own_blk HX'.out.calls e; exact (Array.getElem?_eq_some_iff.1 h3).1
                    have HC5 := hid hC5
                    clear hQ5 hB5 hx1 hp1 hb1s hsl1 ds1 hb hC5
                    cases okb
                    ·
                      as_aux_lemma =>
                       have HL := hid (leftF_no (n := n) hlt (mayB_no (show endK a b x y ws t os k = none by rw [HNY.out, if_neg (of_decide_eq_false HQK.out)])))
                       go_wp2
                       go_roundw
                       case rel => exact ⟨k + 1, q', A', _, _, _, _, by omega, by go_num, hq', HX5.out, HNO.out, HNC.out, HK5.out, HP5.out, HG'.out.trans (by rw [HL.out])⟩
                       case measure => simp [intOf]; omega
                    ·
                      as_aux_lemma =>
                       have hle := of_decide_eq_true HQK.out
                       have hmay : mayB a b x y ws t os (k : Int) = true := by rw [mayB, HNY.out, if_pos hle]; rfl
                       have HL := hid (leftF_yes (n := n) hlt hmay)
                       have HF4 := hid (HF.out.next (k := (k : Int)) (e := C.fEnd) (by omega) (by omega) (by rw [← HF.out.eq, HNY.out, if_pos hle]))
                       have HLE := hid hle
                       clear hle hmay
                       obtain ⟨Wa, hWa⟩ : ∃ z, z = wv.alloc (.cells #[.int .i64 (k : Int)] 2) := ⟨_, rfl⟩
                       have hBa : Below wv.heap.size wv Wa := by rw [hWa]; (repeat' (first | (with_reducible exact Below.refl _ _) | (with_reducible refine Below.alloc ?_ ?_ _) | (with_reducible refine Below.drew ?_) | (with_reducible refine below_drewN ?_ _) | (with_reducible refine Below.setCell ?_ ?_ _) | (with_reducible refine below_via ‹_› ?_ ?_) | (with_reducible refine below_grow ?_ ?_ _ _) | omega | (simp; done) | (simp; omega)))
                       have hXa := HX5.out.below hBa
                       have c6 : wv.cell? ⟨X, 6, none⟩ = some (.slice adO2 os.length cO2) := HX5.out.blk.cell 6 rfl
                       have hbk : B ≤ wv.heap.size := HE5.out.low
                       have hOa := hXa.ord
                       have HXa := hid hXa
                       rw [hWa] at hOa
                       have HWa := hid hWa
                       clear hXa hWa
                       go_upto_region 17 with (at_builtin; refine wpList_row rfl (.tmp 129) (.tmp 131) 29 rfl (B := B) (enc := encI) i0 (.int .i64 0) 8 Try.underlying29 hi iz0 iz1 iz2 rfl (by decide) (fun _ => rfl) (k : Int) rfl 2 hOa 1 rfl (one_encI _) (by unfold maxLen; omega) (by omega) hbk ?_; intro v6 w6 hO6 hg6 hb6; have hg6 : Wa.grownBy w6 (Value.slice adO2 os.length cO2).ownBlock := (by rw [HWa.out]; exact hg6); have hb6 : v6.ownBlock = (Value.slice adO2 os.length cO2).ownBlock ∨ v6.ownBlock = some (wv.heap.size + 1) := hb6; obtain ⟨ad6, cp6, e6⟩ := (SlO.of_owns (enc := encI) (fun _ => rfl) hO6 rfl).1.form; rw [List.length_append, List.length_singleton] at e6; subst e6; have hb6x := HXa.out.blk.grown hg6 HXa.out.notO; have k6 : w6.cell? ⟨X, 6, none⟩ = some (.slice adO2 os.length cO2) := hb6x.cell 6 rfl; have f6 := hb6x.fr)
                       obtain ⟨W7, hW7⟩ : ∃ z, z = w6.setCell ⟨X, 6, none⟩ (.slice ad6 (os.length + 1) cp6) := ⟨_, rfl⟩
                       rw [← hW7]
                       have hK67 : Kept (M3 X (.slice adO2 os.length cO2) (.slice adC2 os.length cC2)) wv W7 := by
                         rw [hW7]
                         exact (((Kept.of hBa).trans ((Kept.ofGrown hg6).mono fun g e => .inr (.inl e))).set _ _ (.inl rfl))
                       have hNO6 : Near Wa (.slice adO2 os.length cO2) (.slice ad6 (os.length + 1) cp6) := near_new hb6 (by rw [HWa.out]; simp)
                       have HX7 := hid (show XS B X bs x y t bq mode _ W7 (os ++ [(k : Int)]) cs l A' (bq - q') _ _ vB' least' by
                         rw [hW7]; exact HXa.out.setO hg6 (hNO6.elim .inl fun h => .inr (by
                           cases e : (Value.slice ad6 (os.length + 1) cp6).ownBlock with
                           | none => exact .inr rfl
                           | some g => exact .inl ⟨g, rfl, h g e⟩)) hO6)
                       have hnC : ∀ {Y : Nat}, wr.heap.size ≤ Y → (Value.slice adC2 os.length cC2).ownBlock ≠ some Y := fun h e => by have := HC5.out _ e; omega
                       have HP7 := hid (HP5.out.kept hK67 (blk_m3 HX5.out HP5.out (by decide) (by decide) (own_apart HX5.out.calls HP5.out (by decide))))
                       have HQ7 := hid (HQ5.out.kept hK67 (blk_m3 HX5.out HQ5.out (by decide) (by decide) (hnC (by omega))))
                       have HE7 := hid (HE5.out.kept hK67 (m3_low HX5.out hBX))
                       have HK7 := hid (HK5.out.to hK67 (m3_near HNO.out HNC.out))
                       have HNO7 := hid (HNO.out.trans (hNO6.elim .inl fun h => .inr fun b hb => Nat.le_trans hBa.size (h b hb)) (show w.heap.size ≤ wv.heap.size by omega))
                       have hz7 := hK67.size
                       clear hW7 hK67 hNO6 hnC hg6 hb6 hO6 k6 f6 hb6x hBa HWa HXa c6 hOa hbk
                       obtain ⟨Cq, hCq⟩ : ∃ z : CallD, z = ⟨(k : Int), C.fArrive, C.fBegin, C.fEnd⟩ := ⟨_, rfl⟩
                       have HCq := hid (show (⟨(k : Int), C.fArrive, C.fBegin, C.fEnd⟩ : CallD) = C by cases C; simp only at HCW; rw [HCW.out])
                       clear hCq Cq
                       have c7 : W7.cell? ⟨X, 7, none⟩ = some (.slice adC2 os.length cC2) := HX7.out.blk.cell 7 rfl
                       have f7 := HX7.out.blk.fr
                       have q0 : W7.cell? ⟨cB, 0, none⟩ = some (.int .i64 k) := HQ7.out.cell 0 rfl
                       have q1' : W7.cell? ⟨cB, 1, none⟩ = some (.int .i64 C.fArrive) := HQ7.out.cell 1 rfl
                       have q2 : W7.cell? ⟨cB, 2, none⟩ = some (.int .i64 C.fBegin) := HQ7.out.cell 2 rfl
                       have q3 : W7.cell? ⟨cB, 3, none⟩ = some (.int .i64 C.fEnd) := HQ7.out.cell 3 rfl
                       have hbk : B ≤ W7.heap.size := HE7.out.low
                       have hX7l := HX7.out.blk.lt
                       have hQ7l := HQ7.out.lt
                       have hcl3 : cs.length ≤ 12 := by omega
                       have HCS := hid hcs
                       go_cut [] (fun wx => ∃ ad8 cp8, XS B X bs x y t bq mode (.slice adl ws.length cpl) wx (os ++ [(k : Int)]) (cs ++ [C]) l A' (bq - q') (.slice ad6 (os.length + 1) cp6) (.slice ad8 (os.length + 1) cp8) vB' least' ∧ Near W7 (.slice adC2 os.length cC2) (.slice ad8 (os.length + 1) cp8) ∧ Kept (M3 X (.slice ad6 (os.length + 1) cp6) (.slice adC2 os.length cC2)) W7 wx)
                       case first =>
                         as_aux_lemma =>
                          go_region_law (refine step_row (by rfl) (.tmp 139) (.tmp 141) 35 (by rfl) (B := B) (enc := encCall) (xs := cs) j0 _ 32 Try.underlying35 hj jz0 jz1 jz2 (by rfl) (by decide) (fun _ => rfl) (.slice adC2 os.length cC2) (⟨(k : Int), C.fArrive, C.fBegin, C.fEnd⟩ : CallD) (by rfl) ⟨W7.heap.size, 0, none⟩ (HX7.out.below (by (repeat' (first | (with_reducible exact Below.refl _ _) | (with_reducible refine Below.alloc ?_ ?_ _) | (with_reducible refine Below.drew ?_) | (with_reducible refine below_drewN ?_ _) | (with_reducible refine Below.setCell ?_ ?_ _) | (with_reducible refine below_via ‹_› ?_ ?_) | (with_reducible refine below_grow ?_ ?_ _ _) | omega | (simp; done) | (simp; omega))))).calls 1 (by rfl) (fun j u h => cells_new W7 (encCall ⟨(k : Int), C.fArrive, C.fBegin, C.fEnd⟩) 42 j u h) (one_encCall _) (by unfold maxLen; omega) (by omega) (by simp; omega) ?_; intro v8 w8 hO8 hg8 hb8; obtain ⟨ad8, cp8, e8⟩ := (SlO.of_owns (enc := encCall) (fun _ => rfl) hO8 rfl).1.form; rw [List.length_append, List.length_singleton, HCS.out] at e8; subst e8; have hb8x := Blk.grown (HX7.out.below (by (repeat' (first | (with_reducible exact Below.refl _ _) | (with_reducible refine Below.alloc ?_ ?_ _) | (with_reducible refine Below.drew ?_) | (with_reducible refine below_drewN ?_ _) | (with_reducible refine Below.setCell ?_ ?_ _) | (with_reducible refine below_via ‹_› ?_ ?_) | (with_reducible refine below_grow ?_ ?_ _ _) | omega | (simp; done) | (simp; omega))))).blk hg8 HX7.out.notC; have k8 : w8.cell? ⟨X, 7, none⟩ = some (.slice adC2 os.length cC2) := hb8x.cell 7 rfl; have f8 := hb8x.fr)
                          all_goals
                            go_wp2_with fail
                            go_meet
                            refine ⟨ad8, cp8, ?_, near_new hb8 (Below.size (B := W7.heap.size) (by (repeat' (first | (with_reducible exact Below.refl _ _) | (with_reducible refine Below.alloc ?_ ?_ _) | (with_reducible refine Below.drew ?_) | (with_reducible refine below_drewN ?_ _) | (with_reducible refine Below.setCell ?_ ?_ _) | (with_reducible refine below_via ‹_› ?_ ?_) | (with_reducible refine below_grow ?_ ?_ _ _) | omega | (simp; done) | (simp; omega))))), ((Kept.of (by (repeat' (first | (with_reducible exact Below.refl _ _) | (with_reducible refine Below.alloc ?_ ?_ _) | (with_reducible refine Below.drew ?_) | (with_reducible refine below_drewN ?_ _) | (with_reducible refine Below.setCell ?_ ?_ _) | (with_reducible refine below_via ‹_› ?_ ?_) | (with_reducible refine below_grow ?_ ?_ _ _) | omega | (simp; done) | (simp; omega))))).trans ((Kept.ofGrown hg8).mono fun g e => .inr (.inr e))).set _ _ (.inl rfl)⟩
                            have := (HX7.out.below (by (repeat' (first | (with_reducible exact Below.refl _ _) | (with_reducible refine Below.alloc ?_ ?_ _) | (with_reducible refine Below.drew ?_) | (with_reducible refine below_drewN ?_ _) | (with_reducible refine Below.setCell ?_ ?_ _) | (with_reducible refine below_via ‹_› ?_ ?_) | (with_reducible refine below_grow ?_ ?_ _ _) | omega | (simp; done) | (simp; omega))))).setC hg8 (hb8.imp id fun e => .inl ⟨_, e, Nat.le_refl _⟩) hO8
                            rw [HCq.out] at this
                            exact this
                       case rest =>
                         as_aux_lemma =>
                          obtain ⟨ad8, cp8, hX9, hN9, hK9⟩ := hcut
                          obtain ⟨w9, rfl⟩ : ∃ z : World, z = wc := ⟨_, rfl⟩
                          have HX9 := hid hX9
                          have HP9 := hid (HP7.out.kept hK9 (blk_m3 HX7.out HP7.out (by decide) (by decide) (own_apart HX7.out.calls HP7.out (by decide))))
                          have HE9 := hid (HE7.out.kept hK9 (m3_low HX7.out hBX))
                          have HNC9 := hid (HNC.out.trans hN9 (show w.heap.size ≤ W7.heap.size by omega))
                          have HK9 := hid (HK7.out.to hK9 (m3_near HNO7.out HNC.out))
                          have c8 : w9.cell? ⟨X, 8, none⟩ = some (.int .i64 l) := hX9.blk.cell 8 rfl
                          have c3 : w9.cell? ⟨X, 3, none⟩ = some (.slice (some ⟨bl, ol, none⟩) ws.length cpl) := by rw [← HE3.out.1]; exact hX9.blk.cell 3 rfl
                          have x3 := env_load HE9.out HE3.out.1 hlt
                          have f9 := hX9.blk.fr
                          have hwl : IntKind.i64.wrap (l + ws[k].fLoad) = l + ws[k].fLoad := IntWalk.i64_in _ (by omega)
                          have hz9 := hK9.size
                          clear hX9 hN9 hK9 c7 f7 q0 q1' q2 q3 hbk
                          go_wp2
                          (refine wp_region_still_tail 13 (by kernel_rfl) (by kernel_rfl) ?_; simp only [List.take_succ_cons, List.take_zero, List.drop_succ_cons, List.drop_zero]; (repeat (first | still_step)); (try refine wpStill_nil ?_); change wpList _ _ _ _ _ (World.drew _))
                          go_wp2_with fail
                          obtain ⟨W10, hW10⟩ : ∃ z, z = (w9.setCell ⟨X, 8, none⟩ (.int .i64 (l + ws[k].fLoad))).drew := ⟨_, rfl⟩
                          rw [← hW10]
                          have hBd9 := fun z : World => (Below.drew (Below.refl z.heap.size z) : Below z.heap.size z z.drew)
                          have HX10 := hid (show XS B X bs x y t bq mode _ W10 (os ++ [(k : Int)]) (cs ++ [C]) (l + ws[k].fLoad) A' (bq - q') _ _ vB' least' by rw [hW10]; exact (HX9.out.setX 8 _ rfl rfl).below (hBd9 _))
                          have hKs : Kept (fun g => g = X) w9 W10 := by rw [hW10]; exact (Kept.set (M := fun g => g = X) (Kept.refl _ w9) ⟨X, 8, none⟩ _ rfl).trans (Kept.of (hBd9 _))
                          have HP10 := hid (HP9.out.kept hKs hpX)
                          have HE10 := hid (HE9.out.kept hKs (by intro g e; have e : g = X := e; omega))
                          have HK10 := hid (HK9.out.to hKs fun g _ e => .inl e)
                          have hz10 := hKs.size
                          clear hW10 hKs c8 c3 x3 f9
                          have HF5 := HF4.out
                          rw [wK_nat hlt, ldA_nat hlt] at HF5
                          have hcn : callsF a ws (os ++ [(k : Int)]) x y t = some (cs ++ [C]) := by
                            rw [callsF_snoc, HC.out, Option.bind_some, addC, ← HF.out.plx, ← HF.out.ply, ← greed_calls HF.out HC.out, wK_nat hlt, ← HCC.out, if_pos HLE.out]
                          have hCb : 0 ≤ C.fEnd ∧ C.fEnd ≤ 4320 := by
                            have := greed_hg HF5 hcn (cs.length) (by simp)
                            obtain ⟨j', -, hj', h5, h6⟩ := this
                            have h7 := HW.out j' hj'
                            simp at h5 h6
                            omega
                          have ex := IH.out (os ++ [(k : Int)]) (cs ++ [C]) ws[k].fAtX ws[k].fAtY C.fEnd (l + ws[k].fLoad) W10 q' A' (bq - q') _ _ vB' least' (by simp; omega) HF5 hcn hCb.1 hCb.2 hpt (by omega) (by omega) hb1 HX10.out (by omega) (by have := HQ1.out; omega) HE10.out
                          obtain ⟨r, hr⟩ : ∃ r, r = goF (takeF mode ws.length) (treeF (mayB a b x y ws t) ws.length n (os ++ [(k : Int)])) q' A' := ⟨_, rfl⟩
                          have hleft := (goF_left (takeF mode ws.length) (treeF (mayB a b x y ws t) ws.length n (os ++ [(k : Int)])) q' A').1
                          rw [← hr] at ex hleft
                          have HS0 := hid (fun h : r.code = 0 => seek_code (takeF mode ws.length) (treeF (mayB a b x y ws t) ws.length n (os ++ [(k : Int)])) (leftF (mayB a b x y ws t) ws.length n os (k + 1)) q' A' (by rw [← hr]; exact h))
                          have HS1 := hid (fun h : r.code ≠ 0 => seek_out (takeF mode ws.length) (treeF (mayB a b x y ws t) ws.length n (os ++ [(k : Int)])) (leftF (mayB a b x y ws t) ws.length n os (k + 1)) q' A' (by rw [← hr]; exact h))
                          rw [← hr] at HS0 HS1
                          clear hr HF5 hcn
                          obtain ⟨fur, hfur⟩ : ∃ z : Bool, z = (r.code == 0) := ⟨_, rfl⟩
                          unfold VisitR at ex
                          rw [← hfur] at ex
                          have HFUR := hid hfur
                          clear hfur
                          refine ex.mono ?_
                          rintro e w11 ⟨vO11, vC11, vB11, least11, rfl, hX11, hN11, hNC11, hK11⟩
                          clear ex
                          obtain ⟨g11, cO11, e11, hc11, hm11⟩ := row_form (enc := encI) (fun _ => rfl) hX11.ord rfl (by simp)
                          rw [List.length_append, List.length_singleton] at e11 hc11
                          subst e11
                          obtain ⟨g12, cC11, e12, hc12, hm12⟩ := row_form (enc := encCall) (fun _ => rfl) hX11.calls rfl (by simp)
                          rw [List.length_append, List.length_singleton, HCS.out] at e12 hc12
                          subst e12
                          have HX11 := hid hX11
                          have HP11 := hid (HP10.out.kept hK11 (blk_m3 HX10.out HP10.out (by decide) (by decide) (own_apart HX10.out.calls HP10.out (by decide))))
                          have HE11 := hid (HE10.out.kept hK11 (m3_low HX10.out hBX))
                          have HNO11 := hid (HNO7.out.trans hN11 (show w.heap.size ≤ W10.heap.size by omega))
                          have HNC11 := hid (HNC9.out.trans hNC11 (show w.heap.size ≤ W10.heap.size by omega))
                          have HK11 := hid (HK10.out.to hK11 (m3_near HNO7.out HNC9.out))
                          obtain ⟨nd, hnd⟩ : ∃ nd : Int, nd = if r.code = 5 then bq + 1 else bq - r.left := ⟨_, rfl⟩
                          rw [← hnd] at HX11
                          have HND := hid hnd
                          clear hnd
                          have c8 : w11.cell? ⟨X, 8, none⟩ = some (.int .i64 (l + ws[k].fLoad)) := HX11.out.blk.cell 8 rfl
                          have c3 : w11.cell? ⟨X, 3, none⟩ = some (.slice (some ⟨bl, ol, none⟩) ws.length cpl) := by rw [← HE3.out.1]; exact HX11.out.blk.cell 3 rfl
                          have x3 := env_load HE11.out HE3.out.1 hlt
                          have f11 := HX11.out.blk.fr
                          have hws : IntKind.i64.wrap (l + ws[k].fLoad - ws[k].fLoad) = l := by rw [show l + ws[k].fLoad - ws[k].fLoad = l by omega]; exact IntWalk.i64_in _ (by omega)
                          clear hX11 hN11 hNC11 hK11 hwl
                          go_wp2
                          (refine wp_region_still_tail 13 (by kernel_rfl) (by kernel_rfl) ?_; simp only [List.take_succ_cons, List.take_zero, List.drop_succ_cons, List.drop_zero]; (repeat (first | still_step)); (try refine wpStill_nil ?_); change wpList _ _ _ _ _ (World.drew _))
                          go_wp2
                          obtain ⟨W12, hW12⟩ : ∃ z, z = (w11.setCell ⟨X, 8, none⟩ (.int .i64 l)).drew := ⟨_, rfl⟩
                          rw [← hW12]
                          have HX12 := hid (show XS B X bs x y t bq mode _ W12 (os ++ [(k : Int)]) (cs ++ [C]) l r.ans nd _ _ vB11 least11 by rw [hW12]; exact (HX11.out.setX 8 _ rfl rfl).below (hBd9 _))
                          have hKs : Kept (fun g => g = X) w11 W12 := by rw [hW12]; exact (Kept.set (M := fun g => g = X) (Kept.refl _ w11) ⟨X, 8, none⟩ _ rfl).trans (Kept.of (hBd9 _))
                          have HP12 := hid (HP11.out.kept hKs hpX)
                          have HK12 := hid (HK11.out.to hKs fun g _ e => .inl e)
                          clear hW12 hKs c8 c3 x3 f11 hws
                          have c7 : W12.cell? ⟨X, 7, none⟩ = some (.slice (some ⟨g12, 0, none⟩) (os.length + 1) cC11) := HX12.out.blk.cell 7 rfl
                          have f12 := HX12.out.blk.fr
                          have hmx : cC11 ≤ 9223372036854775807 := by unfold maxLen at hm12; omega
                          have hmy : cO11 ≤ 9223372036854775807 := by unfold maxLen at hm11; omega
                          have hw1 : IntKind.i64.wrap ((os.length : Int) + 1 - 1) = os.length := by rw [show (os.length : Int) + 1 - 1 = os.length by omega]; exact IntWalk.i64_in _ (by omega)
                          have hw2 : IntKind.i64.wrap (os.length : Int) = os.length := IntWalk.i64_in _ (by omega)
                          have hi0 : (os.length : Int) ≤ cC11 := by omega
                          have hi1 : (os.length : Int) ≤ cO11 := by omega
                          (refine wp_region_still_tail 12 (by kernel_rfl) (by kernel_rfl) ?_; simp only [List.take_succ_cons, List.take_zero, List.drop_succ_cons, List.drop_zero]; (repeat (first | still_step)); (try refine wpStill_nil ?_); change wpList _ _ _ _ _ (World.drew _))
                          go_wp2
                          obtain ⟨W13, hW13⟩ : ∃ z, z = (W12.setCell ⟨X, 7, none⟩ (.slice (some ⟨g12, 0, none⟩) os.length cC11)).drew := ⟨_, rfl⟩
                          rw [← hW13]
                          have HX13 := hid (show XS B X bs x y t bq mode _ W13 (os ++ [(k : Int)]) cs l r.ans nd _ _ vB11 least11 by
                            rw [hW13]; exact (HX12.out.setC (vC' := .slice (some ⟨g12, 0, none⟩) os.length cC11) (cs' := cs) (grownBy_refl _ _) (.inl rfl) (owns_cut' (enc := encCall) (fun _ => rfl) HCS.out.symm HX12.out.calls)).below (hBd9 _))
                          have hKs : Kept (fun g => g = X) W12 W13 := by rw [hW13]; exact (Kept.set (M := fun g => g = X) (Kept.refl _ W12) ⟨X, 7, none⟩ _ rfl).trans (Kept.of (hBd9 _))
                          have HP13 := hid (HP12.out.kept hKs hpX)
                          have HK13 := hid (HK12.out.to hKs fun g _ e => .inl e)
                          clear hW13 hKs c7 f12
                          have c6 : W13.cell? ⟨X, 6, none⟩ = some (.slice (some ⟨g11, 0, none⟩) (os.length + 1) cO11) := HX13.out.blk.cell 6 rfl
                          have f13 := HX13.out.blk.fr
                          have HX14 := hid (show XS B X bs x y t bq mode _ (W13.setCell ⟨X, 6, none⟩ (.slice (some ⟨g11, 0, none⟩) os.length cO11)).drew os cs l r.ans nd (.slice (some ⟨g11, 0, none⟩) os.length cO11) _ vB11 least11 from
                            (HX13.out.setO (vO' := .slice (some ⟨g11, 0, none⟩) os.length cO11) (os' := os) (grownBy_refl _ _) (.inl rfl) (owns_cut' (enc := encI) (fun _ => rfl) rfl HX13.out.ord)).below (hBd9 _))
                          have hKs : Kept (fun g => g = X) W13 (W13.setCell ⟨X, 6, none⟩ (.slice (some ⟨g11, 0, none⟩) os.length cO11)).drew := (Kept.set (M := fun g => g = X) (Kept.refl _ W13) ⟨X, 6, none⟩ _ rfl).trans (Kept.of (hBd9 _))
                          have HP14 := hid (HP13.out.kept hKs hpX)
                          have HK14 := hid (HK13.out.to hKs fun g _ e => .inl e)
                          have HNOx := hid (show Near w (.slice adO os.length capO) (.slice (some ⟨g11, 0, none⟩) os.length cO11) from HNO11.out)
                          have HNCx := hid (show Near w (.slice adC os.length capC) (.slice (some ⟨g12, 0, none⟩) os.length cC11) from HNC11.out)
                          clear hKs hBd9
                          cases fur
                          · have hne : r.code ≠ 0 := by have := HFUR.out; simpa using this.symm
                            have HS2 := hid (HS1.out hne)
                            clear hne
                            (refine wp_region_still_tail 12 (by kernel_rfl) (by kernel_rfl) ?_; simp only [List.take_succ_cons, List.take_zero, List.drop_succ_cons, List.drop_zero]; (repeat (first | still_step)); (try refine wpStill_nil ?_); change wpList _ _ _ _ _ (World.drew _))
                            go_wp2
                            go_ret
                            rw [HG'.out, HL.out, HS2.out]
                            have hx := HX14.out
                            rw [HND.out] at hx
                            exact ⟨_, _, _, _, by rw [← HFUR.out]; rfl, hx, HNOx.out, HNCx.out, HK14.out⟩
                          · have h00 : r.code = 0 := by have := HFUR.out; simpa using this.symm
                            have HS2 := hid (HS0.out h00)
                            have HN0 := hid (show nd = bq - r.left by rw [HND.out, h00]; rfl)
                            clear h00
                            (refine wp_region_still_tail 12 (by kernel_rfl) (by kernel_rfl) ?_; simp only [List.take_succ_cons, List.take_zero, List.drop_succ_cons, List.drop_zero]; (repeat (first | still_step)); (try refine wpStill_nil ?_); change wpList _ _ _ _ _ (World.drew _))
                            go_wp2
                            go_roundw
                            case rel =>
                              have hx := HX14.out
                              rw [HN0.out] at hx
                              exact ⟨k + 1, r.left, r.ans, _, _, _, _, by omega, by go_num, by omega, hx, HNOx.out, HNCx.out, HK14.out, HP14.out, by rw [HG'.out, HL.out, HS2.out]⟩
                            case measure => simp [intOf]; omega
                ·
                  as_aux_lemma =>
                   have hmay := mayB_no (show endK a b x y ws t os k = none by rw [HNX.out, hh]; have := of_decide_eq_true hld; simp [this])
                   have HL := hid (leftF_no (n := n) hlt hmay)
                   clear hmay
                   go_wp2
                   (refine wp_region_quiet_below (by kernel_rfl) (by kernel_rfl) ?_; (repeat (first | go_big_quiet_step ((first | (go_at_call 63; first | exact regrown_bool (c_l00Has _ _ _ _ (by first | (with_reducible assumption) | (with_reducible apply SlO.at; (with_reducible assumption); (repeat' (first | (with_reducible exact Below.refl _ _) | (with_reducible refine Below.alloc ?_ ?_ _) | (with_reducible refine Below.drew ?_) | (with_reducible refine below_drewN ?_ _) | (with_reducible refine Below.setCell ?_ ?_ _) | (with_reducible refine below_via ‹_› ?_ ?_) | (with_reducible refine below_grow ?_ ?_ _ _) | omega | (simp; done) | (simp; omega))); done) | (with_reducible apply SlA.at; (with_reducible assumption); (repeat' (first | (with_reducible exact Below.refl _ _) | (with_reducible refine Below.alloc ?_ ?_ _) | (with_reducible refine Below.drew ?_) | (with_reducible refine below_drewN ?_ _) | (with_reducible refine Below.setCell ?_ ?_ _) | (with_reducible refine below_via ‹_› ?_ ?_) | (with_reducible refine below_grow ?_ ?_ _ _) | omega | (simp; done) | (simp; omega))); done))) (by assumption) | exact regrown_of (c_l00Has _ _ _ _ (by first | (with_reducible assumption) | (with_reducible apply SlO.at; (with_reducible assumption); (repeat' (first | (with_reducible exact Below.refl _ _) | (with_reducible refine Below.alloc ?_ ?_ _) | (with_reducible refine Below.drew ?_) | (with_reducible refine below_drewN ?_ _) | (with_reducible refine Below.setCell ?_ ?_ _) | (with_reducible refine below_via ‹_› ?_ ?_) | (with_reducible refine below_grow ?_ ?_ _ _) | omega | (simp; done) | (simp; omega))); done) | (with_reducible apply SlA.at; (with_reducible assumption); (repeat' (first | (with_reducible exact Below.refl _ _) | (with_reducible refine Below.alloc ?_ ?_ _) | (with_reducible refine Below.drew ?_) | (with_reducible refine below_drewN ?_ _) | (with_reducible refine Below.setCell ?_ ?_ _) | (with_reducible refine below_via ‹_› ?_ ?_) | (with_reducible refine below_grow ?_ ?_ _ _) | omega | (simp; done) | (simp; omega))); done)))))) | quiet_step ((first | (go_at_call 63; first | exact regrown_bool (c_l00Has _ _ _ _ (by first | (with_reducible assumption) | (with_reducible apply SlO.at; (with_reducible assumption); (repeat' (first | (with_reducible exact Below.refl _ _) | (with_reducible refine Below.alloc ?_ ?_ _) | (with_reducible refine Below.drew ?_) | (with_reducible refine below_drewN ?_ _) | (with_reducible refine Below.setCell ?_ ?_ _) | (with_reducible refine below_via ‹_› ?_ ?_) | (with_reducible refine below_grow ?_ ?_ _ _) | omega | (simp; done) | (simp; omega))); done) | (with_reducible apply SlA.at; (with_reducible assumption); (repeat' (first | (with_reducible exact Below.refl _ _) | (with_reducible refine Below.alloc ?_ ?_ _) | (with_reducible refine Below.drew ?_) | (with_reducible refine below_drewN ?_ _) | (with_reducible refine Below.setCell ?_ ?_ _) | (with_reducible refine below_via ‹_› ?_ ?_) | (with_reducible refine below_grow ?_ ?_ _ _) | omega | (simp; done) | (simp; omega))); done))) (by assumption) | exact regrown_of (c_l00Has _ _ _ _ (by first | (with_reducible assumption) | (with_reducible apply SlO.at; (with_reducible assumption); (repeat' (first | (with_reducible exact Below.refl _ _) | (with_reducible refine Below.alloc ?_ ?_ _) | (with_reducible refine Below.drew ?_) | (with_reducible refine below_drewN ?_ _) | (with_reducible refine Below.setCell ?_ ?_ _) | (with_reducible refine below_via ‹_› ?_ ?_) | (with_reducible refine below_grow ?_ ?_ _ _) | omega | (simp; done) | (simp; omega))); done) | (with_reducible apply SlA.at; (with_reducible assumption); (repeat' (first | (with_reducible exact Below.refl _ _) | (with_reducible refine Below.alloc ?_ ?_ _) | (with_reducible refine Below.drew ?_) | (with_reducible refine below_drewN ?_ _) | (with_reducible refine Below.setCell ?_ ?_ _) | (with_reducible refine below_via ‹_› ?_ ?_) | (with_reducible refine below_grow ?_ ?_ _ _) | omega | (simp; done) | (simp; omega))); done)))))))); refine wpQuiet_nil ?_; intro w1 hw'; have hb := below_of_regrown hw'; clear hw'; obtain ⟨hc, hf⟩ := bcell hb; have hz := hb.size; (try simp at hz); (try have hz0 : ∀ b, b < w.heap.size → b < w1.heap.size := fun b h => by omega); (try have hz1 : w.heap.size < w1.heap.size := by omega); (try have hz2 : w.heap.size + 1 < w1.heap.size := by omega); (try have hz3 : w.heap.size + 2 < w1.heap.size := by omega))
                   go_wp2
                   go_roundw
                   case rel => exact ⟨k + 1, q', A', _, _, _, _, by omega, by go_num, hq', HX'.out.below hb, HNO.out, HNC.out, HK.out.trans (Kept.of hb), HP.out.kept (Kept.of (M := fun _ => False) hb) (fun h => h), HG'.out.trans (by rw [HL.out])⟩
                   case measure => simp [intOf]; omega
              ·
                as_aux_lemma =>
                 have HL := hid (leftF_no (n := n) hlt (mayB_no (show endK a b x y ws t os k = none by rw [HNX.out, hh]; rfl)))
                 go_wp2
                 (refine wp_region_quiet_below (by kernel_rfl) (by kernel_rfl) ?_; (repeat (first | go_big_quiet_step ((first | (go_at_call 63; first | exact regrown_bool (c_l00Has _ _ _ _ (by first | (with_reducible assumption) | (with_reducible apply SlO.at; (with_reducible assumption); (repeat' (first | (with_reducible exact Below.refl _ _) | (with_reducible refine Below.alloc ?_ ?_ _) | (with_reducible refine Below.drew ?_) | (with_reducible refine below_drewN ?_ _) | (with_reducible refine Below.setCell ?_ ?_ _) | (with_reducible refine below_via ‹_› ?_ ?_) | (with_reducible refine below_grow ?_ ?_ _ _) | omega | (simp; done) | (simp; omega))); done) | (with_reducible apply SlA.at; (with_reducible assumption); (repeat' (first | (with_reducible exact Below.refl _ _) | (with_reducible refine Below.alloc ?_ ?_ _) | (with_reducible refine Below.drew ?_) | (with_reducible refine below_drewN ?_ _) | (with_reducible refine Below.setCell ?_ ?_ _) | (with_reducible refine below_via ‹_› ?_ ?_) | (with_reducible refine below_grow ?_ ?_ _ _) | omega | (simp; done) | (simp; omega))); done))) (by assumption) | exact regrown_of (c_l00Has _ _ _ _ (by first | (with_reducible assumption) | (with_reducible apply SlO.at; (with_reducible assumption); (repeat' (first | (with_reducible exact Below.refl _ _) | (with_reducible refine Below.alloc ?_ ?_ _) | (with_reducible refine Below.drew ?_) | (with_reducible refine below_drewN ?_ _) | (with_reducible refine Below.setCell ?_ ?_ _) | (with_reducible refine below_via ‹_› ?_ ?_) | (with_reducible refine below_grow ?_ ?_ _ _) | omega | (simp; done) | (simp; omega))); done) | (with_reducible apply SlA.at; (with_reducible assumption); (repeat' (first | (with_reducible exact Below.refl _ _) | (with_reducible refine Below.alloc ?_ ?_ _) | (with_reducible refine Below.drew ?_) | (with_reducible refine below_drewN ?_ _) | (with_reducible refine Below.setCell ?_ ?_ _) | (with_reducible refine below_via ‹_› ?_ ?_) | (with_reducible refine below_grow ?_ ?_ _ _) | omega | (simp; done) | (simp; omega))); done)))))) | quiet_step ((first | (go_at_call 63; first | exact regrown_bool (c_l00Has _ _ _ _ (by first | (with_reducible assumption) | (with_reducible apply SlO.at; (with_reducible assumption); (repeat' (first | (with_reducible exact Below.refl _ _) | (with_reducible refine Below.alloc ?_ ?_ _) | (with_reducible refine Below.drew ?_) | (with_reducible refine below_drewN ?_ _) | (with_reducible refine Below.setCell ?_ ?_ _) | (with_reducible refine below_via ‹_› ?_ ?_) | (with_reducible refine below_grow ?_ ?_ _ _) | omega | (simp; done) | (simp; omega))); done) | (with_reducible apply SlA.at; (with_reducible assumption); (repeat' (first | (with_reducible exact Below.refl _ _) | (with_reducible refine Below.alloc ?_ ?_ _) | (with_reducible refine Below.drew ?_) | (with_reducible refine below_drewN ?_ _) | (with_reducible refine Below.setCell ?_ ?_ _) | (with_reducible refine below_via ‹_› ?_ ?_) | (with_reducible refine below_grow ?_ ?_ _ _) | omega | (simp; done) | (simp; omega))); done))) (by assumption) | exact regrown_of (c_l00Has _ _ _ _ (by first | (with_reducible assumption) | (with_reducible apply SlO.at; (with_reducible assumption); (repeat' (first | (with_reducible exact Below.refl _ _) | (with_reducible refine Below.alloc ?_ ?_ _) | (with_reducible refine Below.drew ?_) | (with_reducible refine below_drewN ?_ _) | (with_reducible refine Below.setCell ?_ ?_ _) | (with_reducible refine below_via ‹_› ?_ ?_) | (with_reducible refine below_grow ?_ ?_ _ _) | omega | (simp; done) | (simp; omega))); done) | (with_reducible apply SlA.at; (with_reducible assumption); (repeat' (first | (with_reducible exact Below.refl _ _) | (with_reducible refine Below.alloc ?_ ?_ _) | (with_reducible refine Below.drew ?_) | (with_reducible refine below_drewN ?_ _) | (with_reducible refine Below.setCell ?_ ?_ _) | (with_reducible refine below_via ‹_› ?_ ?_) | (with_reducible refine below_grow ?_ ?_ _ _) | omega | (simp; done) | (simp; omega))); done)))))))); refine wpQuiet_nil ?_; intro w1 hw'; have hb := below_of_regrown hw'; clear hw'; obtain ⟨hc, hf⟩ := bcell hb; have hz := hb.size; (try simp at hz); (try have hz0 : ∀ b, b < w.heap.size → b < w1.heap.size := fun b h => by omega); (try have hz1 : w.heap.size < w1.heap.size := by omega); (try have hz2 : w.heap.size + 1 < w1.heap.size := by omega); (try have hz3 : w.heap.size + 2 < w1.heap.size := by omega))
                 go_wp2
                 go_roundw
                 case rel => exact ⟨k + 1, q', A', _, _, _, _, by omega, by go_num, hq', HX'.out.below hb, HNO.out, HNC.out, HK.out.trans (Kept.of hb), HP.out.kept (Kept.of (M := fun _ => False) hb) (fun h => h), HG'.out.trans (by rw [HL.out])⟩
                 case measure => simp [intOf]; omega
            ·
              as_aux_lemma =>
               have e : k = ws.length := by omega
               subst e
               go_wp2
               go_ret
               rw [HG'.out, leftF_end, goF_nil]
               exact ⟨_, _, _, _, rfl, HX'.out, HNO.out, HNC.out, HK.out⟩
end Go.Proofs.Ytmolcfagmiecjaa
