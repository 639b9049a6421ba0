/- Sector: its data, how it reads, its copy, size and equality; slices of it. Printed by wip/gen.py. -/
import Derived.Test.YtjibilibdjfdcaaNames
import Derived.Test.YtjibilibdjfdcaaSl
import Derived.StillTailTactics
namespace Go.Proofs.Ytjibilibdjfdcaa
open Go.RowKit
set_option maxRecDepth 100000

structure SectorD where
  fFrom : Int
  fTo : Int
  fColor : ByteArray
def encSector (d : SectorD) : List Value := [.int .i64 d.fFrom, .int .i64 d.fTo, .string d.fColor]
def okSector (d : SectorD) : Prop := I64 d.fFrom ∧ I64 d.fTo ∧ d.fColor.size ≤ maxLen
theorem lenSector (d : SectorD) : (encSector d).length = 3 := rfl

theorem cells_Sector : Try.prog.cellsOf 95 = 3 := by kernel_rfl
theorem rds_Sector {w : World} {cs : List Value} (h : Rds Try.prog w 95 cs) : ∃ d : SectorD, cs = encSector d ∧ okSector d := by
  obtain ⟨hl, hf⟩ := Rds.st Try.underlying95 h
  rw [cells_Sector] at hl
  have e : ∃ c0 c1 c2, cs = [c0, c1, c2] := by
    match cs, hl with
    | [c0, c1, c2], _ => exact ⟨c0, c1, c2, rfl⟩
  obtain ⟨c0, c1, c2, rfl⟩ := e
  simp only [List.mem_cons, List.not_mem_nil, or_false, forall_eq_or_imp, forall_eq, cells_int64, cells_string] at hf
  obtain ⟨h0, h1, h2⟩ := hf
  obtain ⟨x0, e0, w0⟩ := Rds.int Try.underlying2 h0
  obtain ⟨x1, e1, w1⟩ := Rds.int Try.underlying2 h1
  obtain ⟨x2, e2, w2⟩ := Rds.str Try.underlying9 h2
  simp at e0 e1 e2
  subst e0
  subst e1
  subst e2
  exact ⟨⟨x0, x1, x2⟩, rfl, i64_of w0, i64_of w1, w2⟩
theorem open_Sector {H : Type} {enc : TypeId × Value → H} {W : World} {base : Nat} {v : Value} {d : DataW H} {p : List MemPlace} (hv : Value.okWide Try.prog W .any base 95 v) (h : DataW.Trod enc Try.prog W 0 (fun _ => true) true 95 v d p) :
    ∃ d : SectorD, v = .agg #[.int .i64 d.fFrom, .int .i64 d.fTo, .string d.fColor] ∧ okSector d := by
  obtain ⟨⟨l⟩, rfl, hsz⟩ := WideShapes.okWide_struct Try.underlying95 hv
  obtain ⟨d, e, hd⟩ := rds_Sector (rds_arg h)
  exact ⟨d, congrArg (fun l => Value.agg ⟨l⟩) e, hd⟩
theorem open_SectorS {H : Type} {enc : TypeId × Value → H} {W : World} {base : Nat} {v : Value} {d : DataW H} {p : List MemPlace} (hv : Value.okWide Try.prog W .any base 53 v) (h : DataW.Trod enc Try.prog W 0 (fun _ => true) true 53 v d p) :
    ∃ xs : List SectorD, SlA W 0 3 encSector v xs ∧ ∀ x ∈ xs, okSector x := by
  obtain ⟨a, len, cap, rfl⟩ := WideShapes.okWide_slice Try.underlying53 hv
  exact SlA.of_rds Try.underlying53 cells_Sector (by omega) (fun es h => rds_Sector h) (rds_arg h)
theorem c_toSector (x0 : Int) (x1 : Int) (x2 : ByteArray) (w : World) :
    Calls Try.prog 57 #[.agg #[.int .i64 x0, .int .i64 x1, .string x2]] w fun e w' => e = .returned (.agg #[.int .i64 x0, .int .i64 x1, .string x2]) ∧ Below w.heap.size w w' := by
  go_enter Try.func57, Try.ntmps57
  go_wp2
  exact bodyPost_ret (v := .agg #[.int .i64 x0, .int .i64 x1, .string x2]) (by simp [results, Try.results57, go_sem]) rfl ⟨rfl, by (repeat' (first | (with_reducible exact Below.refl _ _) | (with_reducible refine Below.alloc ?_ ?_ _) | (with_reducible refine Below.drew ?_) | (with_reducible refine below_drewN ?_ _) | (with_reducible refine Below.setCell ?_ ?_ _) | (with_reducible refine below_via ‹_› ?_ ?_) | (with_reducible refine below_grow ?_ ?_ _ _) | omega | (simp; done) | (simp; omega)))⟩
def sizeSector (d : SectorD) : Int := (d.fColor.size : Int)
theorem sizeSector_nn (d : SectorD) : 0 ≤ sizeSector d := by unfold sizeSector; omega
theorem c_szSector (x0 : Int) (x1 : Int) (x2 : ByteArray) (n : Int) (w : World) (hx2 : x2.size ≤ maxLen) (h0 : -1 ≤ n) (h1 : n ≤ 1048576) :
    Calls Try.prog 54 #[.agg #[.int .i64 x0, .int .i64 x1, .string x2], .int .i64 n] w fun e w' => e = .returned (.int .i64 (szV n ((x2.size : Int)))) ∧ Below w.heap.size w w' := by
  unfold maxLen at hx2
  go_enter Try.func54, Try.ntmps54
  go_wp2
  all_goals (go_ret; go_light; refine ⟨ret_int (by unfold szV; split <;> omega), by (repeat' (first | (with_reducible exact Below.refl _ _) | (with_reducible refine Below.alloc ?_ ?_ _) | (with_reducible refine Below.drew ?_) | (with_reducible refine below_drewN ?_ _) | (with_reducible refine Below.setCell ?_ ?_ _) | (with_reducible refine below_via ‹_› ?_ ?_) | (with_reducible refine below_grow ?_ ?_ _ _) | omega | (simp; done) | (simp; omega)))⟩)
theorem c_eqSector (x0 : Int) (x1 : Int) (x2 : ByteArray) (w : World) :
    Calls Try.prog 59 #[.agg #[.int .i64 x0, .int .i64 x1, .string x2], .agg #[.int .i64 x0, .int .i64 x1, .string x2]] w fun e w' => e = .returned (.bool true) ∧ Below w.heap.size w w' := by
  go_enter Try.func59, Try.ntmps59
  go_wp2
  go_ret
  exact ⟨rfl, by (repeat' (first | (with_reducible exact Below.refl _ _) | (with_reducible refine Below.alloc ?_ ?_ _) | (with_reducible refine Below.drew ?_) | (with_reducible refine below_drewN ?_ _) | (with_reducible refine Below.setCell ?_ ?_ _) | (with_reducible refine below_via ‹_› ?_ ?_) | (with_reducible refine below_grow ?_ ?_ _ _) | omega | (simp; done) | (simp; omega)))⟩
def totSector : List SectorD → Int
  | [] => 0
  | d :: l => sizeSector d + totSector l
theorem totSector_nn : ∀ l : List SectorD, 0 ≤ totSector l
  | [] => by simp [totSector]
  | d :: l => by have := totSector_nn l; have := sizeSector_nn d; simp only [totSector]; omega
set_option maxHeartbeats 400000 in
theorem c_szSectorS (v : Value) (xs : List SectorD) (n : Int) (w : World) (h : SlA w 0 3 encSector v xs) (hok : ∀ x ∈ xs, okSector x) (h0 : -1 ≤ n) (h1 : n ≤ 1048576) :
    Calls Try.prog 40 #[v, .int .i64 n] w fun e w' => e = .returned (.int .i64 (szV n (xs.length + totSector xs))) ∧ Below w.heap.size w w' := by
  rcases h with ⟨a, cap, rfl, rfl, hcap⟩ | ⟨b, off, cap, rfl, hp, hc, hm, _, hb, hx⟩
  · by_cases hn : n < 0
    · go_enter Try.func40, Try.ntmps40
      go_wp2
      go_ret
      exact ⟨ret_int (by unfold szV; simp [totSector]; omega), by (repeat' (first | (with_reducible exact Below.refl _ _) | (with_reducible refine Below.alloc ?_ ?_ _) | (with_reducible refine Below.drew ?_) | (with_reducible refine below_drewN ?_ _) | (with_reducible refine Below.setCell ?_ ?_ _) | (with_reducible refine below_via ‹_› ?_ ?_) | (with_reducible refine below_grow ?_ ?_ _ _) | omega | (simp; done) | (simp; omega)))⟩
    · go_enter Try.func40, Try.ntmps40
      go_wp2
      refine wp_loop_rounds 1 ?_
      rw [rounds_succ]
      go_wp2
      go_ret
      exact ⟨ret_int (by unfold szV; simp [totSector]; omega), by (repeat' (first | (with_reducible exact Below.refl _ _) | (with_reducible refine Below.alloc ?_ ?_ _) | (with_reducible refine Below.drew ?_) | (with_reducible refine below_drewN ?_ _) | (with_reducible refine Below.setCell ?_ ?_ _) | (with_reducible refine below_via ‹_› ?_ ?_) | (with_reducible refine below_grow ?_ ?_ _ _) | omega | (simp; done) | (simp; omega)))⟩
  · unfold maxLen at hm
    have hT := totSector_nn xs
    by_cases hn : n - xs.length < 0
    · go_enter Try.func40, Try.ntmps40
      go_wp2
      go_ret
      exact ⟨ret_int (by unfold szV; split <;> omega), by (repeat' (first | (with_reducible exact Below.refl _ _) | (with_reducible refine Below.alloc ?_ ?_ _) | (with_reducible refine Below.drew ?_) | (with_reducible refine below_drewN ?_ _) | (with_reducible refine Below.setCell ?_ ?_ _) | (with_reducible refine below_via ‹_› ?_ ?_) | (with_reducible refine below_grow ?_ ?_ _ _) | omega | (simp; done) | (simp; omega)))⟩
    · go_enter Try.func40, Try.ntmps40
      go_wp2
      go_loopw [1, 5] (fun t i wr => ∃ (k : Nat) (m : Int), k ≤ xs.length ∧ i = .int .i64 k ∧ t = .int .i64 m ∧ 0 ≤ m ∧ m ≤ n ∧ m + totSector xs = n - xs.length + totSector (xs.drop k) ∧ Below w.heap.size w wr) (fun _ i _ => xs.length - (intOf i).toNat)
      case atStart => exact ⟨0, _, Nat.zero_le _, rfl, rfl, by omega, by omega, by simp, by (repeat' (first | (with_reducible exact Below.refl _ _) | (with_reducible refine Below.alloc ?_ ?_ _) | (with_reducible refine Below.drew ?_) | (with_reducible refine below_drewN ?_ _) | (with_reducible refine Below.setCell ?_ ?_ _) | (with_reducible refine below_via ‹_› ?_ ?_) | (with_reducible refine below_grow ?_ ?_ _ _) | omega | (simp; done) | (simp; omega)))⟩
      case round =>
        obtain ⟨k, m, hk, rfl, rfl, hm0, hmn, hmt, hB⟩ := hrel
        obtain ⟨hc0, hf0⟩ := bcell hB
        have hz := hB.size
        by_cases hlt : k < xs.length
        · have hmt' := hmt
          rw [drop_cons xs k hlt, totSector] at hmt'
          have hnn := sizeSector_nn xs[k]
          have hnd := totSector_nn (xs.drop (k + 1))
          have HO := hid (hok xs[k] (List.getElem_mem hlt))
          have HT := hid hmt'
          have HN := hid (And.intro hnn hnd)
          have HT0 := hid hT
          have hm1 : m ≤ 1048576 := by omega
          have g0 := (hc0 b _ hb).trans (hx k hlt 0 (by omega))
          have g1 := (hc0 b _ hb).trans (hx k hlt 1 (by omega))
          have g2 := (hc0 b _ hb).trans (hx k hlt 2 (by omega))
          simp only [encSector, List.getD_cons_zero, List.getD_cons_succ, Nat.add_zero] at g0 g1 g2
          clear hc0 hf0 hx hmt hmt' hnn hnd hT
          go_wp2_with (go_at_call 54; refine (c_szSector xs[k].fFrom xs[k].fTo xs[k].fColor m _ (HO.out.2.2) (by omega) hm1).mono ?_; rintro e w1 ⟨rfl, hb⟩; obtain ⟨hc, hf⟩ := bcell hb; have hz := hb.size; (try simp at hz); (try have hz0 : ∀ b, b < w.heap.size → b < w1.heap.size := fun b h => by omega); (try have hz1 : w.heap.size < w1.heap.size := by omega); (try have hz2 : w.heap.size + 1 < w1.heap.size := by omega); (try have hz3 : w.heap.size + 2 < w1.heap.size := by omega))
          · go_ret
            go_light
            have hneg : szV m (sizeSector xs[k]) < 0 := by assumption
            exact ⟨ret_int (szV_eq_neg (by have := HN.out; have := HT.out; have := HT0.out; have := szV_neg hneg; omega)), by (repeat' (first | (with_reducible exact Below.refl _ _) | (with_reducible refine Below.alloc ?_ ?_ _) | (with_reducible refine Below.drew ?_) | (with_reducible refine below_drewN ?_ _) | (with_reducible refine Below.setCell ?_ ?_ _) | (with_reducible refine below_via ‹_› ?_ ?_) | (with_reducible refine below_grow ?_ ?_ _ _) | omega | (simp; done) | (simp; omega)))⟩
          · have hpos : 0 ≤ szV m (sizeSector xs[k]) := by assumption
            go_roundw
            case rel =>
              have e1 := szV_pos (n := m) (m := sizeSector xs[k]) (by omega)
              exact ⟨k + 1, szV m (sizeSector xs[k]), by omega, by go_num, rfl, by omega, by have := HN.out; omega, by have := HT.out; omega, by (repeat' (first | (with_reducible exact Below.refl _ _) | (with_reducible refine Below.alloc ?_ ?_ _) | (with_reducible refine Below.drew ?_) | (with_reducible refine below_drewN ?_ _) | (with_reducible refine Below.setCell ?_ ?_ _) | (with_reducible refine below_via ‹_› ?_ ?_) | (with_reducible refine below_grow ?_ ?_ _ _) | omega | (simp; done) | (simp; omega)))⟩
            case measure => simp [intOf]; omega
        · have e : k = xs.length := by omega
          have hE : m = szV n (xs.length + totSector xs) := by
            rw [e, List.drop_length, totSector] at hmt
            unfold szV; split <;> omega
          have HE := hid hE
          clear hE hmt e
          go_wp2
          go_ret
          exact ⟨ret_int HE.out, by (repeat' (first | (with_reducible exact Below.refl _ _) | (with_reducible refine Below.alloc ?_ ?_ _) | (with_reducible refine Below.drew ?_) | (with_reducible refine below_drewN ?_ _) | (with_reducible refine Below.setCell ?_ ?_ _) | (with_reducible refine below_via ‹_› ?_ ?_) | (with_reducible refine below_grow ?_ ?_ _ _) | omega | (simp; done) | (simp; omega)))⟩
theorem info_Sector : (Try.prog.info? 80).map (fun i => (i.zero, i.size, i.bytes)) = some (some (.agg #[.int .i64 0, .int .i64 0, .string ⟨#[]⟩]), 3, 32) := by kernel_rfl
set_option maxHeartbeats 400000 in
theorem c_toSectorS (v : Value) (xs : List SectorD) (w : World) (h : SlA w 0 3 encSector v xs) (hl : xs.length ≤ 1048576) :
    Calls Try.prog 46 #[v] w fun e w' => ∃ g, e = .returned (.slice (some ⟨g, 0, none⟩) xs.length xs.length) ∧ Below w.heap.size w w' ∧ SlO w' w.heap.size 3 encSector (.slice (some ⟨g, 0, none⟩) xs.length xs.length) xs := by
  obtain ⟨i0, hi, hz0, hz1, hz2⟩ := info_parts info_Sector
  rcases h with ⟨a, cap, rfl, rfl, hcap⟩ | ⟨b, off, cap, rfl, hp, hc, hm, _, hb, hx⟩
  · go_enter Try.func46, Try.ntmps46
    go_wp2_with (at_make; refine wpList_make_full _ rfl _ _ 62 rfl w.heap.size 80 i0 _ 3 Try.underlying62 hi hz0 hz1 _ _ _ _ 0 rfl rfl rfl rfl (by rw [hz2]; omega) (by unfold maxLen; omega) (Nat.le_refl _) ?_)
    intro w1 hown hgr
    have hB0 : Below w.heap.size w w1 := (Below.refl _ _).grown hgr (Nat.le_refl _) (fun k hk => by cases hk)
    have hP0 := PartC.made (cs := ([] : List SectorD).flatMap encSector) hown rfl
    clear hown hgr
    go_wp2
    refine wp_loop_rounds 1 ?_
    rw [rounds_succ]
    go_wp2
    go_ret
    exact ⟨_, rfl, hB0, hP0.own (xs := []) (n := 3) (fun _ => rfl) (Nat.le_refl _) (Nat.le_refl _) (Nat.zero_le _)⟩
  · unfold maxLen at hm
    go_enter Try.func46, Try.ntmps46
    go_wp2_with (at_make; refine wpList_make_full _ rfl _ _ 62 rfl w.heap.size 80 i0 _ 3 Try.underlying62 hi hz0 hz1 _ _ _ _ xs.length rfl rfl rfl rfl (by rw [hz2]; omega) (by unfold maxLen; omega) (Nat.le_refl _) ?_)
    intro w1 hown hgr
    have hP0 := PartC.made (cs := xs.flatMap encSector) hown (flat_len encSector (fun _ => rfl) xs)
    have hB0 : Below w.heap.size w w1 := (Below.refl _ _).grown hgr (Nat.le_refl _) (fun k hk => by cases hk)
    have hfl := hid (flat_len (n := 3) encSector (fun _ => rfl) xs)
    clear hown hgr
    go_wp2
    go_loopw [4] (fun i wr => ∃ k : Nat, k ≤ xs.length ∧ i = .int .i64 k ∧ Below w.heap.size w wr ∧ PartC wr w.heap.size (xs.flatMap encSector) (k * 3)) (fun i _ => xs.length - (intOf i).toNat)
    case atStart => exact ⟨0, Nat.zero_le _, rfl, hB0, by simpa using hP0⟩
    case round =>
      clear hP0 hB0
      obtain ⟨k, hk, rfl, hB, hP⟩ := hrel
      by_cases hlt : k < xs.length
      · have hzr := hP.1
        obtain ⟨hc0, hf0⟩ := bcell hB
        have g0 := hx k hlt 0 (by omega)
        have g1 := hx k hlt 1 (by omega)
        have g2 := hx k hlt 2 (by omega)
        obtain ⟨u0, hu0⟩ := hP.2.2.2.1 (k*3) (by rw [hfl.out]; omega)
        obtain ⟨u1, hu1⟩ := hP.2.2.2.1 (k*3+1) (by rw [hfl.out]; omega)
        obtain ⟨u2, hu2⟩ := hP.2.2.2.1 (k*3+2) (by rw [hfl.out]; omega)
        have hfz := hP.2.2.1
        simp only [encSector, List.getD_cons_zero, List.getD_cons_succ, Nat.add_zero] at g0 g1 g2
        go_wp2_with (first | (go_at_call 57; refine (c_toSector _ _ _ _).mono ?_; rintro e w1 ⟨rfl, hb⟩; obtain ⟨hc, hf⟩ := bcell hb; have hz := hb.size; (try simp at hz); (try have hz0 : ∀ b, b < w.heap.size → b < w1.heap.size := fun b h => by omega); (try have hz1 : w.heap.size < w1.heap.size := by omega); (try have hz2 : w.heap.size + 1 < w1.heap.size := by omega); (try have hz3 : w.heap.size + 2 < w1.heap.size := by omega)))
        go_roundw
        case rel =>
          have F := fun j hj => (flat_get (n := 3) encSector (fun _ => rfl) xs k hlt j hj).symm
          refine ⟨k + 1, by omega, by go_num, by (repeat' (first | (with_reducible exact Below.refl _ _) | (with_reducible refine Below.alloc ?_ ?_ _) | (with_reducible refine Below.drew ?_) | (with_reducible refine below_drewN ?_ _) | (with_reducible refine Below.setCell ?_ ?_ _) | (with_reducible refine below_via ‹_› ?_ ?_) | (with_reducible refine below_grow ?_ ?_ _ _) | omega | (simp; done) | (simp; omega))), ?_⟩
          exact ((((hP.below hb (Nat.le_refl _)).set (by rw [hfl.out]; omega) (F 0 (by omega)) rfl).set (by rw [hfl.out]; omega) (F 1 (by omega)) rfl).set (by rw [hfl.out]; omega) (F 2 (by omega)) (by omega))
        case measure => simp [intOf]; omega
      · have e : k = xs.length := by omega
        subst e
        go_wp2
        go_ret
        exact ⟨_, rfl, hB, hP.own (xs := xs) (n := 3) (fun _ => rfl) (Nat.le_refl _) (Nat.le_refl _) (by unfold maxLen; omega)⟩
set_option maxHeartbeats 400000 in
theorem c_eqSectorS (v v' : Value) (lo lo' : Nat) (xs : List SectorD) (w : World) (h : SlA w lo 3 encSector v xs) (h' : SlA w lo' 3 encSector v' xs) :
    Calls Try.prog 52 #[v, v'] w fun e w' => e = .returned (.bool true) ∧ Below w.heap.size w w' := by
  rcases h with ⟨a, cap, rfl, rfl, hcap⟩ | ⟨b, off, cap, rfl, hp, hc, hm, _, hb, hx⟩
  · rcases h' with ⟨a', cap', rfl, _, hcap'⟩ | ⟨b', off', cap', rfl, hp', hc', hm', _, hb', hx'⟩
    · go_enter Try.func52, Try.ntmps52
      go_wp2
      refine wp_loop_rounds 1 ?_
      rw [rounds_succ]
      go_wp2
      go_ret
      exact ⟨rfl, by (repeat' (first | (with_reducible exact Below.refl _ _) | (with_reducible refine Below.alloc ?_ ?_ _) | (with_reducible refine Below.drew ?_) | (with_reducible refine below_drewN ?_ _) | (with_reducible refine Below.setCell ?_ ?_ _) | (with_reducible refine below_via ‹_› ?_ ?_) | (with_reducible refine below_grow ?_ ?_ _ _) | omega | (simp; done) | (simp; omega)))⟩
    · simp at hp'
  · rcases h' with ⟨a', cap', rfl, e', hcap'⟩ | ⟨b', off', cap', rfl, hp', hc', hm', _, hb', hx'⟩
    · subst e'; simp at hp
    · unfold maxLen at hm hm'
      go_enter Try.func52, Try.ntmps52
      go_wp2
      go_loopw [5] (fun i wr => ∃ k : Nat, k ≤ xs.length ∧ i = .int .i64 k ∧ Below w.heap.size w wr) (fun i _ => xs.length - (intOf i).toNat)
      case atStart => exact ⟨0, Nat.zero_le _, rfl, by (repeat' (first | (with_reducible exact Below.refl _ _) | (with_reducible refine Below.alloc ?_ ?_ _) | (with_reducible refine Below.drew ?_) | (with_reducible refine below_drewN ?_ _) | (with_reducible refine Below.setCell ?_ ?_ _) | (with_reducible refine below_via ‹_› ?_ ?_) | (with_reducible refine below_grow ?_ ?_ _ _) | omega | (simp; done) | (simp; omega)))⟩
      case round =>
        obtain ⟨k, hk, rfl, hB⟩ := hrel
        obtain ⟨hc0, hf0⟩ := bcell hB
        have hz := hB.size
        by_cases hlt : k < xs.length
        · have hlI : (k : Int) < xs.length := by omega
          have g0 := (hc0 b _ hb).trans (hx k hlt 0 (by omega))
          have g1 := (hc0 b _ hb).trans (hx k hlt 1 (by omega))
          have g2 := (hc0 b _ hb).trans (hx k hlt 2 (by omega))
          have k0 := (hc0 b' _ hb').trans (hx' k hlt 0 (by omega))
          have k1 := (hc0 b' _ hb').trans (hx' k hlt 1 (by omega))
          have k2 := (hc0 b' _ hb').trans (hx' k hlt 2 (by omega))
          simp only [encSector, List.getD_cons_zero, List.getD_cons_succ, Nat.add_zero] at g0 k0 g1 k1 g2 k2
          clear hc0 hf0 hx hx'
          go_wp2
          go_still_tail 8, (by kernel_rfl)
          change wpList _ _ _ _ _ wr.drew
          generalize hwd : wr.drew = wd
          have hBd : Below w.heap.size w wd := hwd ▸ hB.drew
          have hzd := hBd.size
          clear hwd
          go_wp2_with (first | (go_at_call 59; refine (c_eqSector _ _ _ _).mono ?_; rintro e w1 ⟨rfl, hb⟩; obtain ⟨hc, hf⟩ := bcell hb; have hz := hb.size; (try simp at hz); (try have hz0 : ∀ b, b < w.heap.size → b < w1.heap.size := fun b h => by omega); (try have hz1 : w.heap.size < w1.heap.size := by omega); (try have hz2 : w.heap.size + 1 < w1.heap.size := by omega); (try have hz3 : w.heap.size + 2 < w1.heap.size := by omega)))
          go_roundw
          case rel => exact ⟨k + 1, by omega, by go_num, by (repeat' (first | (with_reducible exact Below.refl _ _) | (with_reducible refine Below.alloc ?_ ?_ _) | (with_reducible refine Below.drew ?_) | (with_reducible refine below_drewN ?_ _) | (with_reducible refine Below.setCell ?_ ?_ _) | (with_reducible refine below_via ‹_› ?_ ?_) | (with_reducible refine below_grow ?_ ?_ _ _) | omega | (simp; done) | (simp; omega)))⟩
          case measure => simp [intOf]; omega
        · go_wp2
          go_ret
          exact ⟨rfl, by (repeat' (first | (with_reducible exact Below.refl _ _) | (with_reducible refine Below.alloc ?_ ?_ _) | (with_reducible refine Below.drew ?_) | (with_reducible refine below_drewN ?_ _) | (with_reducible refine Below.setCell ?_ ?_ _) | (with_reducible refine below_via ‹_› ?_ ?_) | (with_reducible refine below_grow ?_ ?_ _ _) | omega | (simp; done) | (simp; omega)))⟩
end Go.Proofs.Ytjibilibdjfdcaa
