/- The text of sectors, the reference's side. -/
import Derived.Test.YtabbhlehbhadiaaGreatDoorList
import Derived.Test.YtabbhlehbhadiaaGreatDoorSectsW
import Derived.Test.YtabbhlehbhadiaaGreatDoorTSector
import Derived.Deep.RegionHeld3
namespace Go.Proofs.YtabbhlehbhadiaaGreatDoor
open Go.RowKit Go.Sort
set_option linter.unusedVariables false
set_option maxRecDepth 100000

def secL (d : SectorD) : List UInt8 := Lib.itoa d.fFrom ++ 45 :: (Lib.itoa d.fTo ++ d.fColor.data.toList)
def secS (d : SectorD) : ByteArray := decS d.fFrom ++ ⟨#[45]⟩ ++ decS d.fTo ++ d.fColor
theorem secS_bs (d : SectorD) : secS d = bs (secL d) := by
  have e : (⟨#[45]⟩ : ByteArray) = bs [45] := rfl
  rw [secS, decS_bs, decS_bs, e, ← bs_self d.fColor, bs_app, bs_app, bs_app, secL]; simp
def secsL (xs : List SectorD) : List UInt8 := jn 44 (xs.map secL)
def secsT (xs : List SectorD) : List UInt8 := if xs = [] then [45] else secsL xs
def secsR (xs : List SectorD) : ByteArray := if secB xs then bs (secsT xs) else ⟨#[]⟩
theorem secB_in {xs : List SectorD} (h : secB xs = true) : xs.length ≤ 12 ∧ ∀ x ∈ xs, x.fColor.size = 1 ∧ (0 ≤ x.fFrom ∧ x.fFrom ≤ 359) ∧ (0 ≤ x.fTo ∧ x.fTo ≤ 359) := by
  simp only [secB, Bool.and_eq_true, decide_eq_true_eq, allB_iff] at h
  refine ⟨by omega, fun x hx => ?_⟩
  obtain ⟨i, hi, rfl⟩ := List.mem_iff_getElem.1 hx
  have h1 := h.2.1 i hi
  have h2 := stepS_bd h1 hi
  simp only [stepS, Bool.and_eq_true, oA_get hi, sectB] at h1
  rw [fA_get hi, tA_get hi] at h2
  exact ⟨colB_one h1.1.2.2, ⟨h2.1, h2.2.1⟩, h2.2.2⟩
theorem secS_size {d : SectorD} (hf : I64 d.fFrom) (ht : I64 d.fTo) (hc : d.fColor.size = 1) : (secS d).size ≤ 44 := by
  have h1 := decS_size hf
  have h2 := decS_size ht
  rw [secS, ByteArray.size_append, ByteArray.size_append, ByteArray.size_append]
  have : (⟨#[45]⟩ : ByteArray).size = 1 := rfl
  omega
theorem secsL_take {xs : List SectorD} {k : Nat} (h : k < xs.length) : secsL (xs.take (k + 1)) = if k = 0 then secL xs[k] else secsL (xs.take k) ++ 44 :: secL xs[k] := by
  have e : xs.take (k + 1) = xs.take k ++ [xs[k]] := by simp
  rw [e, secsL, List.map_append, List.map_cons, List.map_nil, jn_snoc]
  by_cases hk : k = 0
  · subst hk; simp
  · rw [if_neg hk, if_neg]
    · rfl
    · intro e2
      have h3 : (List.map secL (xs.take k)).length = 0 := by rw [e2]; rfl
      rw [List.length_map, List.length_take] at h3
      omega
theorem secsL_size {xs : List SectorD} (h : ∀ x ∈ xs, (secS x).size ≤ 44) : (secsL xs).length ≤ 45 * xs.length := by
  have : ∀ k, k ≤ xs.length → (secsL (xs.take k)).length ≤ 45 * k := by
    intro k
    induction k with
    | zero => intro _; simp [secsL, jn]
    | succ k ih =>
      intro hk
      have h1 := ih (by omega)
      have h2 := h xs[k] (List.getElem_mem _)
      rw [secS_bs, bs_size] at h2
      rw [secsL_take (show k < xs.length by omega)]
      split
      · omega
      · simp; omega
  have h2 := this xs.length (Nat.le_refl _)
  rw [List.take_length] at h2
  exact h2
end Go.Proofs.YtabbhlehbhadiaaGreatDoor
namespace Go.Proofs.YtabbhlehbhadiaaGreatDoor
open Go.RowKit Go.Sort
set_option linter.unusedVariables false
set_option maxRecDepth 100000

/-- one element appended to a list of the call's own, as an operation of a region that draws its order -/
theorem step_push {α : Type} {P : Program} {ops : Array Oper} {o : Oper} {a : Act} {K : Act → World → Prop} {Q : Exit → Act → World → Prop} {E : Prop} (hgd : o.guard = none) (s x : Operand) (t : TypeId)
    (ho : o.op = .call { callee := .builtin .append, args := #[s, x], argTypes := #[t, t] }) {W : World} {g0 : Nat} {e : TypeId} {n : Nat} {enc : α → List Value} (i : TypeInfo) (z : Value) (bytes : Nat) (ht : P.underlying t = some (.slice e)) (hi : P.info? e = some i) (hz : i.zero = some z)
    (hsize : i.size = n) (hby : i.bytes = bytes) (hzs : z.cells.size = n) (hsz : 0 < n) (hn : ∀ y, (enc y).length = n) {w : World} (v : Value) {xs : List α} (y : α) (hs : a.eval s = v) (ad : Addr)
    (hA : Acc W g0 e n enc w v xs) (c : Nat) (hx : a.eval x = .slice (some ad) 1 c) (hnews : ∀ j u, (enc y)[j]? = some u → w.cell? (ad.add j) = some u) (h1 : ∀ u ∈ enc y, u.oneCell' = true) (h63 : xs.length + 1 ≤ maxLen) (hbytes : (xs.length + 1) * bytes ≤ 140737488355328)
    (h : ∀ v' w', Acc W g0 e n enc w' v' (xs ++ [y]) → w.grownBy w' v.ownBlock → K (a.put o.dst v') w') : if Region.wanted o (yielded ops a.tmps) = true then Oper.wp P o a w K Q else E := by
  have hw : Region.wanted o (yielded ops a.tmps) = true := by simp [Region.wanted, hgd]
  rw [if_pos hw]
  obtain ⟨v', w', hrun, hown, hgr, _, hat⟩ := run_append_own_at (P := P) w g0 t o.type e i z n bytes ht hi hz hsize hby hzs hsz v xs.length _ hA.own ad 1 c (enc y) (by rw [hn]; omega) hnews h1 h63 hbytes (Nat.le_trans hA.low hA.size)
  unfold Oper.wp
  simp [execOp, ho, resolve, invoke, builtin, hs, hx, hrun, Result.andThen]
  refine h v' w' ⟨?_, ?_, ?_, hA.low⟩ hgr
  · rw [List.flatMap_append, List.length_append]; simpa using hown
  · refine ⟨hgr.os.trans hA.fr.os, hgr.tape.trans hA.fr.tape, hgr.output.trans hA.fr.output, Nat.le_trans hA.fr.size hgr.size, fun k hk hne => ?_⟩
    rw [hgr.block k (Nat.lt_of_lt_of_le hk hA.size) (fun he => ?_)]
    · exact hA.fr.block k hk hne
    · rcases hA.blk k he.symm with e1 | e1
      · exact hne (by rw [e1])
      · omega
  · intro b hb
    rcases hat with hat | hat
    · exact hA.blk b (hat ▸ hb)
    · rw [hat] at hb; injection hb with hb; right; rw [← hb]; exact hA.size
theorem Acc.notNew {α : Type} {W w : World} {g0 n : Nat} {e : TypeId} {enc : α → List Value} {v : Value} {xs : List α} (h : Acc W g0 e n enc w v xs) (hn : ∀ x, (enc x).length = n) : v.ownBlock ≠ some w.heap.size := fun e => by
  have := ((h.slo hn).2 _ e).1; omega
set_option maxHeartbeats 4000000 in
theorem c_impl_SectorsText (v : Value) (xs : List SectorD) (w : World) (h : SlA w 0 3 encSector v xs) (hok : ∀ x ∈ xs, okSector x) (hl : xs.length ≤ 1048576) (hp : Pow w) :
    Calls Tryz.prog 27 #[v] w fun e w' => e = .returned (.string (secsR xs)) ∧ Below w.heap.size w w' := by
  cases hq : secB xs
  · have HR := hid (show secsR xs = ⟨#[]⟩ by rw [secsR, hq]; rfl)
    go_enter Tryz.func27, Tryz.ntmps27
    go_wp2_with (first | (go_at_call 49; refine (c_impl_ValidSectors _ _ _ (by first | (with_reducible assumption) | (with_reducible apply SlO.at; (with_reducible assumption); (repeat' (first | (with_reducible exact Below.refl _ _) | (with_reducible refine Below.alloc ?_ ?_ _) | (with_reducible refine Below.drew ?_) | (with_reducible refine below_drewN ?_ _) | (with_reducible refine Below.setCell ?_ ?_ _) | (with_reducible refine below_via ‹_› ?_ ?_) | (with_reducible refine below_grow ?_ ?_ _ _) | omega | (simp; done) | (simp; omega))); done) | (with_reducible apply SlA.at; (with_reducible assumption); (repeat' (first | (with_reducible exact Below.refl _ _) | (with_reducible refine Below.alloc ?_ ?_ _) | (with_reducible refine Below.drew ?_) | (with_reducible refine below_drewN ?_ _) | (with_reducible refine Below.setCell ?_ ?_ _) | (with_reducible refine below_via ‹_› ?_ ?_) | (with_reducible refine below_grow ?_ ?_ _ _) | omega | (simp; done) | (simp; omega))); done)) (by assumption) (by omega)).mono ?_; rintro e w1 ⟨rfl, hb⟩; obtain ⟨hc, hf⟩ := bcell hb; have hz := hb.size; (try simp at hz); (try have hz0 : ∀ b, b < w.heap.size → b < w1.heap.size := fun b h => by omega); (try have hz1 : w.heap.size < w1.heap.size := by omega); (try have hz2 : w.heap.size + 1 < w1.heap.size := by omega); (try have hz3 : w.heap.size + 2 < w1.heap.size := by omega)))
    go_ret
    rw [HR.out]
    exact ⟨rfl, by (repeat' (first | (with_reducible exact Below.refl _ _) | (with_reducible refine Below.alloc ?_ ?_ _) | (with_reducible refine Below.drew ?_) | (with_reducible refine below_drewN ?_ _) | (with_reducible refine Below.setCell ?_ ?_ _) | (with_reducible refine below_via ‹_› ?_ ?_) | (with_reducible refine below_grow ?_ ?_ _ _) | omega | (simp; done) | (simp; omega)))⟩
  · have HR := hid (show secsR xs = bs (secsT xs) by rw [secsR, hq]; rfl)
    obtain ⟨h12, hin⟩ := secB_in hq
    have hcv := fun w' (h' : SlA w' 0 3 encSector v xs) => c_impl_ValidSectors v xs w' h' hok hl
    rw [hq] at hcv
    by_cases h0 : xs = []
    · subst h0
      obtain ⟨ad, cap, rfl⟩ := h.form
      have HL := hid (show bs (secsT []) = ⟨#[45]⟩ by simp [secsT, bs])
      go_enter Tryz.func27, Tryz.ntmps27
      go_wp2_with (first | (go_at_call 49; refine (hcv _ (by first | (with_reducible assumption) | (with_reducible apply SlO.at; (with_reducible assumption); (repeat' (first | (with_reducible exact Below.refl _ _) | (with_reducible refine Below.alloc ?_ ?_ _) | (with_reducible refine Below.drew ?_) | (with_reducible refine below_drewN ?_ _) | (with_reducible refine Below.setCell ?_ ?_ _) | (with_reducible refine below_via ‹_› ?_ ?_) | (with_reducible refine below_grow ?_ ?_ _ _) | omega | (simp; done) | (simp; omega))); done) | (with_reducible apply SlA.at; (with_reducible assumption); (repeat' (first | (with_reducible exact Below.refl _ _) | (with_reducible refine Below.alloc ?_ ?_ _) | (with_reducible refine Below.drew ?_) | (with_reducible refine below_drewN ?_ _) | (with_reducible refine Below.setCell ?_ ?_ _) | (with_reducible refine below_via ‹_› ?_ ?_) | (with_reducible refine below_grow ?_ ?_ _ _) | omega | (simp; done) | (simp; omega))); done))).mono ?_; rintro e w1 ⟨rfl, hb⟩; obtain ⟨hc, hf⟩ := bcell hb; have hz := hb.size; (try simp at hz); (try have hz0 : ∀ b, b < w.heap.size → b < w1.heap.size := fun b h => by omega); (try have hz1 : w.heap.size < w1.heap.size := by omega); (try have hz2 : w.heap.size + 1 < w1.heap.size := by omega); (try have hz3 : w.heap.size + 2 < w1.heap.size := by omega)))
      go_ret
      rw [HR.out, HL.out]
      exact ⟨rfl, by (repeat' (first | (with_reducible exact Below.refl _ _) | (with_reducible refine Below.alloc ?_ ?_ _) | (with_reducible refine Below.drew ?_) | (with_reducible refine below_drewN ?_ _) | (with_reducible refine Below.setCell ?_ ?_ _) | (with_reducible refine below_via ‹_› ?_ ?_) | (with_reducible refine below_grow ?_ ?_ _ _) | omega | (simp; done) | (simp; omega)))⟩
    · have hpos : 0 < xs.length := by cases xs with | nil => exact absurd rfl h0 | cons a l => simp
      obtain ⟨i0, hi, iz0, iz1, iz2⟩ := info_parts info_string
      have HN := hid h0
      have hh := h
      rcases h with ⟨a', c', e', hx', _⟩ | ⟨b, off, cap, rfl, _, hc, hm, _, hb, hx⟩
      · exact absurd hx' h0
      have hz : ((xs.length : Int) == 0) = false := by rw [beq_eq_false_iff_ne]; omega
      have hin' := hid hin
      clear h0 hin
      go_enter Tryz.func27, Tryz.ntmps27
      go_wp2_with fail
      refine (hcv _ (by first | (with_reducible assumption) | (with_reducible apply SlO.at; (with_reducible assumption); (repeat' (first | (with_reducible exact Below.refl _ _) | (with_reducible refine Below.alloc ?_ ?_ _) | (with_reducible refine Below.drew ?_) | (with_reducible refine below_drewN ?_ _) | (with_reducible refine Below.setCell ?_ ?_ _) | (with_reducible refine below_via ‹_› ?_ ?_) | (with_reducible refine below_grow ?_ ?_ _ _) | omega | (simp; done) | (simp; omega))); done) | (with_reducible apply SlA.at; (with_reducible assumption); (repeat' (first | (with_reducible exact Below.refl _ _) | (with_reducible refine Below.alloc ?_ ?_ _) | (with_reducible refine Below.drew ?_) | (with_reducible refine below_drewN ?_ _) | (with_reducible refine Below.setCell ?_ ?_ _) | (with_reducible refine below_via ‹_› ?_ ?_) | (with_reducible refine below_grow ?_ ?_ _ _) | omega | (simp; done) | (simp; omega))); done))).mono ?_
      rintro e w1 ⟨rfl, hb1⟩
      have hz1 := hb1.size
      have HP := hid (hp.at hb1)
      have A1 := Acc.lit (α := ByteArray) (W := w1.alloc (.cells #[] 9)) (w0 := w1) (e := 9) (Below.refl _ _) 1 encT
      obtain ⟨W, hW⟩ : ∃ W, W = w1.alloc (.cells #[] 9) := ⟨_, rfl⟩
      rw [← hW] at A1
      have hBW : Below w1.heap.size w1 W := by rw [hW]; exact (Below.refl _ _).alloc (Nat.le_refl _) _
      have hzW : w1.heap.size < W.heap.size := by rw [hW]; simp
      have HW := hid hW
      clear hW hp hcv hh
      go_wp2_with fail
      (try rw [← HW.out])
      go_loopw [3, 15] (fun u i wr => ∃ k : Nat, k ≤ xs.length ∧ i = .int .i64 k ∧ Acc W w1.heap.size 9 1 encT wr u ((xs.take k).map secS)) (fun _ i _ => xs.length - (intOf i).toNat)
      case atStart => exact ⟨0, Nat.zero_le _, rfl, A1⟩
      case round =>
        clear A1
        obtain ⟨k, hk, rfl, hA⟩ := hrel
        have hbW : b < W.heap.size := by omega
        have hbn : b ≠ w1.heap.size := by omega
        by_cases hlt : k < xs.length
        · have hlI : (k : Int) < xs.length := by omega
          have hbb := fun j hj => below_cell hBW (by omega) (below_cell hb1 hb (hx k hlt j hj))
          have g0 := hA.cellAt hbW hbn (hbb 0 (by omega))
          have g1 := hA.cellAt hbW hbn (hbb 1 (by omega))
          have g2 := hA.cellAt hbW hbn (hbb 2 (by omega))
          simp only [encSector, List.getD_cons_zero, List.getD_cons_succ, Nat.add_zero] at g0 g1 g2
          obtain ⟨hI0, hI1, -⟩ := hok _ (List.getElem_mem hlt)
          have hI2 := (hin'.out _ (List.getElem_mem hlt)).1
          have hS := secS_size hI0 hI1 hI2
          obtain ⟨f, hf⟩ : ∃ f, f = xs[k].fFrom := ⟨_, rfl⟩
          obtain ⟨t, ht⟩ : ∃ t, t = xs[k].fTo := ⟨_, rfl⟩
          obtain ⟨c, hcc⟩ : ∃ c, c = xs[k].fColor := ⟨_, rfl⟩
          have hDD := hid (show secS xs[k] = decS f ++ ⟨#[45]⟩ ++ decS t ++ c by rw [secS, hf, ht, hcc])
          rw [← hf] at g0 hI0
          rw [← ht] at g1 hI1
          rw [← hcc] at g2 hI2
          have z0 := decS_size hI0
          have z1 := decS_size hI1
          have hBr : Below w1.heap.size w1 wr := hBW.trans hA.keep
          have HPr := HP.out.at hBr
          have HM := hid (show (xs.take (k + 1)).map secS = (xs.take k).map secS ++ [secS xs[k]] by
            have e : xs.take (k + 1) = xs.take k ++ [xs[k]] := by simp
            rw [e, List.map_append]; rfl)
          have hml : ((xs.take k).map secS).length ≤ 12 := by simp; omega
          have hbr : b < wr.heap.size := by have := hA.size; omega
          have HNE := hid (hA.notNew (fun _ => rfl))
          have HA := hid hA
          obtain ⟨r1, r1'⟩ := big_no (n := (decS f).size) (by omega)
          obtain ⟨r2, r2'⟩ := big_no (n := (decS f).size + 1) (by omega)
          obtain ⟨r3, r3'⟩ := big_no (n := (decS f).size + 1 + (decS t).size) (by omega)
          obtain ⟨r4, r4'⟩ := big_no (n := (decS f).size + 1 + (decS t).size + c.size) (by omega)
          clear hx hf ht hcc hbb hA hI2 hS
          go_wp2_with fail
          go_region_held3 (fun w' => w'.cell? ⟨wr.heap.size, 0, none⟩ = some (.int .i64 f) ∧ w'.cell? ⟨wr.heap.size, 1, none⟩ = some (.int .i64 t) ∧ w'.cell? ⟨wr.heap.size, 2, none⟩ = some (.string c)) ((refine ⟨?_, ?_, ?_⟩ <;> (first | assumption | (simp [*, go_sem]; done)))) (first
            | (go_at_call 39; refine (c_Decimal f _ hI0 (HPr.at (by (repeat' (first | (with_reducible exact Below.refl _ _) | (with_reducible refine Below.alloc ?_ ?_ _) | (with_reducible refine Below.drew ?_) | (with_reducible refine below_drewN ?_ _) | (with_reducible refine Below.setCell ?_ ?_ _) | (with_reducible refine below_via ‹_› ?_ ?_) | (with_reducible refine below_grow ?_ ?_ _ _) | omega | (simp; done) | (simp; omega)))))).mono ?_; rintro e w2 ⟨rfl, hb2⟩; obtain ⟨hc2, hf2⟩ := bcell hb2; have hz2 := hb2.size; (try simp at hz2); (try have hy : w.heap.size < w2.heap.size := by omega); (try have hy : w.heap.size ≤ w2.heap.size := by omega); (try have hy : w.heap.size + 1 < w2.heap.size := by omega); (try have hy : w.heap.size + 1 ≤ w2.heap.size := by omega); (try have hy : w.heap.size + 2 < w2.heap.size := by omega); (try have hy : w.heap.size + 2 ≤ w2.heap.size := by omega); (try have hy : w1.heap.size < w2.heap.size := by omega); (try have hy : w1.heap.size ≤ w2.heap.size := by omega); (have hy2 : wr.heap.size < w2.heap.size := by first | omega | (have := hb2.size; simp at this; omega)))
            | (go_at_call 39; refine (c_Decimal t _ hI1 (HPr.at (by (repeat' (first | (with_reducible exact Below.refl _ _) | (with_reducible refine Below.alloc ?_ ?_ _) | (with_reducible refine Below.drew ?_) | (with_reducible refine below_drewN ?_ _) | (with_reducible refine Below.setCell ?_ ?_ _) | (with_reducible refine below_via ‹_› ?_ ?_) | (with_reducible refine below_grow ?_ ?_ _ _) | omega | (simp; done) | (simp; omega)))))).mono ?_; rintro e w3 ⟨rfl, hb3⟩; obtain ⟨hc3, hf3⟩ := bcell hb3; have hz3 := hb3.size; (try simp at hz3); (try have hy : w.heap.size < w3.heap.size := by omega); (try have hy : w.heap.size ≤ w3.heap.size := by omega); (try have hy : w.heap.size + 1 < w3.heap.size := by omega); (try have hy : w.heap.size + 1 ≤ w3.heap.size := by omega); (try have hy : w.heap.size + 2 < w3.heap.size := by omega); (try have hy : w.heap.size + 2 ≤ w3.heap.size := by omega); (try have hy : w1.heap.size < w3.heap.size := by omega); (try have hy : w1.heap.size ≤ w3.heap.size := by omega); (try have hy : w2.heap.size < w3.heap.size := by omega); (try have hy : w2.heap.size ≤ w3.heap.size := by omega); (have hy3 : wr.heap.size < w3.heap.size := by first | omega | (have := hb3.size; simp at this; omega)))
            | (refine step_push (by rfl) (.tmp 19) (.tmp 31) 69 (by rfl) (W := W) (g0 := w1.heap.size) (enc := encT) (xs := (xs.take k).map secS) i0 (.string ⟨#[]⟩) 16 Tryz.underlying69 hi iz0 iz1 iz2 (by rfl) (by decide) (fun _ => rfl) _ (decS f ++ (⟨#[45]⟩ : ByteArray) ++ decS t ++ c) (by rfl) _ (HA.out.below (by (repeat' (first | (with_reducible exact Below.refl _ _) | (with_reducible refine Below.alloc ?_ ?_ _) | (with_reducible refine Below.drew ?_) | (with_reducible refine below_drewN ?_ _) | (with_reducible refine Below.setCell ?_ ?_ _) | (with_reducible refine below_via ‹_› ?_ ?_) | (with_reducible refine below_grow ?_ ?_ _ _) | omega | (simp; done) | (simp; omega))))) 1 (by rfl) (fun j u h => cells_new _ (encT (decS f ++ (⟨#[45]⟩ : ByteArray) ++ decS t ++ c)) 9 j u h) (one_encT _) (by unfold maxLen; omega) (by omega) ?_; intro v4 w4 hA4 hg4; have y0 := hg4.cell (a := ⟨wr.heap.size, 0, none⟩) (v := .int .i64 f) (by simp [*, go_sem]) (Ne.symm HNE.out); have y1 := hg4.cell (a := ⟨wr.heap.size, 1, none⟩) (v := .int .i64 t) (by simp [*, go_sem]) (Ne.symm HNE.out); have y2 := hg4.cell (a := ⟨wr.heap.size, 2, none⟩) (v := .string c) (by simp [*, go_sem]) (Ne.symm HNE.out)))
          all_goals
            go_wp2_with fail
            go_roundw
            case rel => exact ⟨k + 1, by omega, by go_num, by rw [HM.out, hDD.out]; exact hA4⟩
            case measure => simp [intOf]; omega
        · have e : k = xs.length := by omega
          have hlI : ¬ (k : Int) < xs.length := by omega
          rw [e, List.take_length] at hA
          have hBr : Below w.heap.size w wr := hb1.trans ((hBW.trans hA.keep).mono hz1)
          have hS := (hA.slo (fun _ => rfl)).1
          have hjm : (xs.map secS).map (·.data.toList) = xs.map secL := by rw [List.map_map]; exact List.map_congr_left fun n _ => by show (secS n).data.toList = _; rw [secS_bs, bs_list]
          have hsz := secsL_size (xs := xs) (fun x hx => secS_size (hok x hx).1 (hok x hx).2.1 (hin'.out x hx).1)
          have cj := c_Join 44 _ (xs.map secS) wr hS (by simpa using hpos) (by rw [hjm]; show (secsL xs).length ≤ _; omega) (by simp; omega)
          rw [hjm] at cj
          have HLL := hid (show secsT xs = jn 44 (xs.map secL) by rw [secsT, if_neg HN.out]; rfl)
          clear hA hS e hjm hx
          go_wp2_with (first | (go_at_call 64; refine cj.mono ?_; rintro e w2 ⟨rfl, hb⟩))
          go_ret
          rw [HR.out, HLL.out]
          exact ⟨rfl, hBr.trans (hb.mono hBr.size)⟩
end Go.Proofs.YtabbhlehbhadiaaGreatDoor
