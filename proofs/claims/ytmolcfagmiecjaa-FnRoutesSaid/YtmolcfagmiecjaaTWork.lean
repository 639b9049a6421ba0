/- Work: its data, how it reads, its copy, size and equality; slices of it. Printed by wip/gen.py. -/
import Derived.Test.YtmolcfagmiecjaaNames
import Derived.Test.YtmolcfagmiecjaaSl
import Derived.StillTailTactics
import Derived.Test.YtmolcfagmiecjaaTPoint
namespace Go.Proofs.Ytmolcfagmiecjaa
open Go.RowKit
set_option maxRecDepth 100000

structure WorkD where
  fName : ByteArray
  fAtX : Int
  fAtY : Int
  fLoad : Int
  fMinutes : Int
  fFrom : Int
  fUntil : Int
def encWork (d : WorkD) : List Value := [.string d.fName, .int .i64 d.fAtX, .int .i64 d.fAtY, .int .i64 d.fLoad, .int .i64 d.fMinutes, .int .i64 d.fFrom, .int .i64 d.fUntil]
def okWork (d : WorkD) : Prop := d.fName.size ≤ maxLen ∧ I64 d.fAtX ∧ I64 d.fAtY ∧ I64 d.fLoad ∧ I64 d.fMinutes ∧ I64 d.fFrom ∧ I64 d.fUntil
theorem lenWork (d : WorkD) : (encWork d).length = 7 := rfl

theorem cells_Work : Try.prog.cellsOf 94 = 7 := by kernel_rfl
theorem rds_Work {w : World} {cs : List Value} (h : Rds Try.prog w 94 cs) : ∃ d : WorkD, cs = encWork d ∧ okWork d := by
  obtain ⟨hl, hf⟩ := Rds.st Try.underlying94 h
  rw [cells_Work] at hl
  have e : ∃ c0 c1 c2 c3 c4 c5 c6, cs = [c0, c1, c2, c3, c4, c5, c6] := by
    match cs, hl with
    | [c0, c1, c2, c3, c4, c5, c6], _ => exact ⟨c0, c1, c2, c3, c4, c5, c6, rfl⟩
  obtain ⟨c0, c1, c2, c3, c4, c5, c6, rfl⟩ := e
  simp only [List.mem_cons, List.not_mem_nil, or_false, forall_eq_or_imp, forall_eq, cells_Point, cells_int64, cells_string] at hf
  obtain ⟨h0, h1, h2, h3, h4, h5⟩ := hf
  obtain ⟨x0, e0, w0⟩ := Rds.str Try.underlying9 h0
  obtain ⟨y1, e1, w1⟩ := rds_Point h1
  obtain ⟨x3, e3, w3⟩ := Rds.int Try.underlying2 h2
  obtain ⟨x4, e4, w4⟩ := Rds.int Try.underlying2 h3
  obtain ⟨x5, e5, w5⟩ := Rds.int Try.underlying2 h4
  obtain ⟨x6, e6, w6⟩ := Rds.int Try.underlying2 h5
  simp [encPoint] at e0 e1 e3 e4 e5 e6
  subst e0
  obtain ⟨rfl, rfl⟩ := e1
  subst e3
  subst e4
  subst e5
  subst e6
  exact ⟨⟨x0, y1.fX, y1.fY, x3, x4, x5, x6⟩, rfl, w0, w1.1, w1.2, i64_of w3, i64_of w4, i64_of w5, i64_of w6⟩
theorem open_Work {H : Type} {enc : TypeId × Value → H} {W : World} {base : Nat} {v : Value} {d : DataW H} {p : List MemPlace} (hv : Value.okWide Try.prog W .any base 94 v) (h : DataW.Trod enc Try.prog W 0 (fun _ => true) true 94 v d p) :
    ∃ d : WorkD, v = .agg #[.string d.fName, .int .i64 d.fAtX, .int .i64 d.fAtY, .int .i64 d.fLoad, .int .i64 d.fMinutes, .int .i64 d.fFrom, .int .i64 d.fUntil] ∧ okWork d := by
  obtain ⟨⟨l⟩, rfl, hsz⟩ := WideShapes.okWide_struct Try.underlying94 hv
  obtain ⟨d, e, hd⟩ := rds_Work (rds_arg h)
  exact ⟨d, congrArg (fun l => Value.agg ⟨l⟩) e, hd⟩
theorem open_WorkS {H : Type} {enc : TypeId × Value → H} {W : World} {base : Nat} {v : Value} {d : DataW H} {p : List MemPlace} (hv : Value.okWide Try.prog W .any base 48 v) (h : DataW.Trod enc Try.prog W 0 (fun _ => true) true 48 v d p) :
    ∃ xs : List WorkD, SlA W 0 7 encWork v xs ∧ ∀ x ∈ xs, okWork x := by
  obtain ⟨a, len, cap, rfl⟩ := WideShapes.okWide_slice Try.underlying48 hv
  exact SlA.of_rds Try.underlying48 cells_Work (by omega) (fun es h => rds_Work h) (rds_arg h)
theorem c_toWork (x0 : ByteArray) (x1 : Int) (x2 : Int) (x3 : Int) (x4 : Int) (x5 : Int) (x6 : Int) (w : World) :
    Calls Try.prog 75 #[.agg #[.string x0, .int .i64 x1, .int .i64 x2, .int .i64 x3, .int .i64 x4, .int .i64 x5, .int .i64 x6]] w fun e w' => e = .returned (.agg #[.string x0, .int .i64 x1, .int .i64 x2, .int .i64 x3, .int .i64 x4, .int .i64 x5, .int .i64 x6]) ∧ Below w.heap.size w w' := by
  go_enter Try.func75, Try.ntmps75
  go_wp2_with (first | (go_at_call 49; refine (c_toPoint _ _ _).mono ?_; rintro e w1 ⟨rfl, hb⟩; obtain ⟨hc, hf⟩ := bcell hb; have hz := hb.size; (try simp at hz); (try have hz0 : ∀ b, b < w.heap.size → b < w1.heap.size := fun b h => by omega); (try have hz1 : w.heap.size < w1.heap.size := by omega); (try have hz2 : w.heap.size + 1 < w1.heap.size := by omega); (try have hz3 : w.heap.size + 2 < w1.heap.size := by omega)))
  exact bodyPost_ret (v := .agg #[.string x0, .int .i64 x1, .int .i64 x2, .int .i64 x3, .int .i64 x4, .int .i64 x5, .int .i64 x6]) (by simp [results, Try.results75, go_sem, *]) rfl ⟨rfl, by (repeat' (first | (with_reducible exact Below.refl _ _) | (with_reducible refine Below.alloc ?_ ?_ _) | (with_reducible refine Below.drew ?_) | (with_reducible refine below_drewN ?_ _) | (with_reducible refine Below.setCell ?_ ?_ _) | (with_reducible refine below_via ‹_› ?_ ?_) | (with_reducible refine below_grow ?_ ?_ _ _) | omega | (simp; done) | (simp; omega)))⟩
def sizeWork (d : WorkD) : Int := (d.fName.size : Int)
theorem sizeWork_nn (d : WorkD) : 0 ≤ sizeWork d := by unfold sizeWork; omega
theorem c_szWork (x0 : ByteArray) (x1 : Int) (x2 : Int) (x3 : Int) (x4 : Int) (x5 : Int) (x6 : Int) (n : Int) (w : World) (hx0 : x0.size ≤ maxLen) (h0 : -1 ≤ n) (h1 : n ≤ 1048576) :
    Calls Try.prog 74 #[.agg #[.string x0, .int .i64 x1, .int .i64 x2, .int .i64 x3, .int .i64 x4, .int .i64 x5, .int .i64 x6], .int .i64 n] w fun e w' => e = .returned (.int .i64 (szV n ((x0.size : Int)))) ∧ Below w.heap.size w w' := by
  unfold maxLen at hx0
  go_enter Try.func74, Try.ntmps74
  go_wp2
  all_goals (go_ret; go_light; refine ⟨ret_int (by unfold szV; split <;> omega), by (repeat' (first | (with_reducible exact Below.refl _ _) | (with_reducible refine Below.alloc ?_ ?_ _) | (with_reducible refine Below.drew ?_) | (with_reducible refine below_drewN ?_ _) | (with_reducible refine Below.setCell ?_ ?_ _) | (with_reducible refine below_via ‹_› ?_ ?_) | (with_reducible refine below_grow ?_ ?_ _ _) | omega | (simp; done) | (simp; omega)))⟩)
theorem c_eqWork (x0 : ByteArray) (x1 : Int) (x2 : Int) (x3 : Int) (x4 : Int) (x5 : Int) (x6 : Int) (w : World) :
    Calls Try.prog 78 #[.agg #[.string x0, .int .i64 x1, .int .i64 x2, .int .i64 x3, .int .i64 x4, .int .i64 x5, .int .i64 x6], .agg #[.string x0, .int .i64 x1, .int .i64 x2, .int .i64 x3, .int .i64 x4, .int .i64 x5, .int .i64 x6]] w fun e w' => e = .returned (.bool true) ∧ Below w.heap.size w w' := by
  go_enter Try.func78, Try.ntmps78
  go_wp2_with (first | (go_at_call 108; refine (c_eqPoint _ _ _).mono ?_; rintro e w1 ⟨rfl, hb⟩; obtain ⟨hc, hf⟩ := bcell hb; have hz := hb.size; (try simp at hz); (try have hz0 : ∀ b, b < w.heap.size → b < w1.heap.size := fun b h => by omega); (try have hz1 : w.heap.size < w1.heap.size := by omega); (try have hz2 : w.heap.size + 1 < w1.heap.size := by omega); (try have hz3 : w.heap.size + 2 < w1.heap.size := by omega)))
  go_ret
  exact ⟨rfl, by (repeat' (first | (with_reducible exact Below.refl _ _) | (with_reducible refine Below.alloc ?_ ?_ _) | (with_reducible refine Below.drew ?_) | (with_reducible refine below_drewN ?_ _) | (with_reducible refine Below.setCell ?_ ?_ _) | (with_reducible refine below_via ‹_› ?_ ?_) | (with_reducible refine below_grow ?_ ?_ _ _) | omega | (simp; done) | (simp; omega)))⟩
def totWork : List WorkD → Int
  | [] => 0
  | d :: l => sizeWork d + totWork l
theorem totWork_nn : ∀ l : List WorkD, 0 ≤ totWork l
  | [] => by simp [totWork]
  | d :: l => by have := totWork_nn l; have := sizeWork_nn d; simp only [totWork]; omega
set_option maxHeartbeats 400000 in
theorem c_szWorkS (v : Value) (xs : List WorkD) (n : Int) (w : World) (h : SlA w 0 7 encWork v xs) (hok : ∀ x ∈ xs, okWork x) (h0 : -1 ≤ n) (h1 : n ≤ 1048576) :
    Calls Try.prog 26 #[v, .int .i64 n] w fun e w' => e = .returned (.int .i64 (szV n (xs.length + totWork xs))) ∧ Below w.heap.size w w' := by
  rcases h with ⟨a, cap, rfl, rfl, hcap⟩ | ⟨b, off, cap, rfl, hp, hc, hm, _, hb, hx⟩
  · by_cases hn : n < 0
    · go_enter Try.func26, Try.ntmps26
      go_wp2
      go_ret
      exact ⟨ret_int (by unfold szV; simp [totWork]; omega), by (repeat' (first | (with_reducible exact Below.refl _ _) | (with_reducible refine Below.alloc ?_ ?_ _) | (with_reducible refine Below.drew ?_) | (with_reducible refine below_drewN ?_ _) | (with_reducible refine Below.setCell ?_ ?_ _) | (with_reducible refine below_via ‹_› ?_ ?_) | (with_reducible refine below_grow ?_ ?_ _ _) | omega | (simp; done) | (simp; omega)))⟩
    · go_enter Try.func26, Try.ntmps26
      go_wp2
      refine wp_loop_rounds 1 ?_
      rw [rounds_succ]
      go_wp2
      go_ret
      exact ⟨ret_int (by unfold szV; simp [totWork]; omega), by (repeat' (first | (with_reducible exact Below.refl _ _) | (with_reducible refine Below.alloc ?_ ?_ _) | (with_reducible refine Below.drew ?_) | (with_reducible refine below_drewN ?_ _) | (with_reducible refine Below.setCell ?_ ?_ _) | (with_reducible refine below_via ‹_› ?_ ?_) | (with_reducible refine below_grow ?_ ?_ _ _) | omega | (simp; done) | (simp; omega)))⟩
  · unfold maxLen at hm
    have hT := totWork_nn xs
    by_cases hn : n - xs.length < 0
    · go_enter Try.func26, Try.ntmps26
      go_wp2
      go_ret
      exact ⟨ret_int (by unfold szV; split <;> omega), by (repeat' (first | (with_reducible exact Below.refl _ _) | (with_reducible refine Below.alloc ?_ ?_ _) | (with_reducible refine Below.drew ?_) | (with_reducible refine below_drewN ?_ _) | (with_reducible refine Below.setCell ?_ ?_ _) | (with_reducible refine below_via ‹_› ?_ ?_) | (with_reducible refine below_grow ?_ ?_ _ _) | omega | (simp; done) | (simp; omega)))⟩
    · go_enter Try.func26, Try.ntmps26
      go_wp2
      go_loopw [1, 5] (fun t i wr => ∃ (k : Nat) (m : Int), k ≤ xs.length ∧ i = .int .i64 k ∧ t = .int .i64 m ∧ 0 ≤ m ∧ m ≤ n ∧ m + totWork xs = n - xs.length + totWork (xs.drop k) ∧ Below w.heap.size w wr) (fun _ i _ => xs.length - (intOf i).toNat)
      case atStart => exact ⟨0, _, Nat.zero_le _, rfl, rfl, by omega, by omega, by simp, by (repeat' (first | (with_reducible exact Below.refl _ _) | (with_reducible refine Below.alloc ?_ ?_ _) | (with_reducible refine Below.drew ?_) | (with_reducible refine below_drewN ?_ _) | (with_reducible refine Below.setCell ?_ ?_ _) | (with_reducible refine below_via ‹_› ?_ ?_) | (with_reducible refine below_grow ?_ ?_ _ _) | omega | (simp; done) | (simp; omega)))⟩
      case round =>
        obtain ⟨k, m, hk, rfl, rfl, hm0, hmn, hmt, hB⟩ := hrel
        obtain ⟨hc0, hf0⟩ := bcell hB
        have hz := hB.size
        by_cases hlt : k < xs.length
        · have hmt' := hmt
          rw [drop_cons xs k hlt, totWork] at hmt'
          have hnn := sizeWork_nn xs[k]
          have hnd := totWork_nn (xs.drop (k + 1))
          have HO := hid (hok xs[k] (List.getElem_mem hlt))
          have HT := hid hmt'
          have HN := hid (And.intro hnn hnd)
          have HT0 := hid hT
          have hm1 : m ≤ 1048576 := by omega
          have g0 := (hc0 b _ hb).trans (hx k hlt 0 (by omega))
          have g1 := (hc0 b _ hb).trans (hx k hlt 1 (by omega))
          have g2 := (hc0 b _ hb).trans (hx k hlt 2 (by omega))
          have g3 := (hc0 b _ hb).trans (hx k hlt 3 (by omega))
          have g4 := (hc0 b _ hb).trans (hx k hlt 4 (by omega))
          have g5 := (hc0 b _ hb).trans (hx k hlt 5 (by omega))
          have g6 := (hc0 b _ hb).trans (hx k hlt 6 (by omega))
          simp only [encWork, List.getD_cons_zero, List.getD_cons_succ, Nat.add_zero] at g0 g1 g2 g3 g4 g5 g6
          clear hc0 hf0 hx hmt hmt' hnn hnd hT
          go_wp2_with (go_at_call 74; refine (c_szWork xs[k].fName xs[k].fAtX xs[k].fAtY xs[k].fLoad xs[k].fMinutes xs[k].fFrom xs[k].fUntil m _ (HO.out.1) (by omega) hm1).mono ?_; rintro e w1 ⟨rfl, hb⟩; obtain ⟨hc, hf⟩ := bcell hb; have hz := hb.size; (try simp at hz); (try have hz0 : ∀ b, b < w.heap.size → b < w1.heap.size := fun b h => by omega); (try have hz1 : w.heap.size < w1.heap.size := by omega); (try have hz2 : w.heap.size + 1 < w1.heap.size := by omega); (try have hz3 : w.heap.size + 2 < w1.heap.size := by omega))
          · go_ret
            go_light
            have hneg : szV m (sizeWork xs[k]) < 0 := by assumption
            exact ⟨ret_int (szV_eq_neg (by have := HN.out; have := HT.out; have := HT0.out; have := szV_neg hneg; omega)), by (repeat' (first | (with_reducible exact Below.refl _ _) | (with_reducible refine Below.alloc ?_ ?_ _) | (with_reducible refine Below.drew ?_) | (with_reducible refine below_drewN ?_ _) | (with_reducible refine Below.setCell ?_ ?_ _) | (with_reducible refine below_via ‹_› ?_ ?_) | (with_reducible refine below_grow ?_ ?_ _ _) | omega | (simp; done) | (simp; omega)))⟩
          · have hpos : 0 ≤ szV m (sizeWork xs[k]) := by assumption
            go_roundw
            case rel =>
              have e1 := szV_pos (n := m) (m := sizeWork xs[k]) (by omega)
              exact ⟨k + 1, szV m (sizeWork xs[k]), by omega, by go_num, rfl, by omega, by have := HN.out; omega, by have := HT.out; omega, by (repeat' (first | (with_reducible exact Below.refl _ _) | (with_reducible refine Below.alloc ?_ ?_ _) | (with_reducible refine Below.drew ?_) | (with_reducible refine below_drewN ?_ _) | (with_reducible refine Below.setCell ?_ ?_ _) | (with_reducible refine below_via ‹_› ?_ ?_) | (with_reducible refine below_grow ?_ ?_ _ _) | omega | (simp; done) | (simp; omega)))⟩
            case measure => simp [intOf]; omega
        · have e : k = xs.length := by omega
          have hE : m = szV n (xs.length + totWork xs) := by
            rw [e, List.drop_length, totWork] at hmt
            unfold szV; split <;> omega
          have HE := hid hE
          clear hE hmt e
          go_wp2
          go_ret
          exact ⟨ret_int HE.out, by (repeat' (first | (with_reducible exact Below.refl _ _) | (with_reducible refine Below.alloc ?_ ?_ _) | (with_reducible refine Below.drew ?_) | (with_reducible refine below_drewN ?_ _) | (with_reducible refine Below.setCell ?_ ?_ _) | (with_reducible refine below_via ‹_› ?_ ?_) | (with_reducible refine below_grow ?_ ?_ _ _) | omega | (simp; done) | (simp; omega)))⟩
theorem info_Work : (Try.prog.info? 44).map (fun i => (i.zero, i.size, i.bytes)) = some (some (.agg #[.string ⟨#[]⟩, .int .i64 0, .int .i64 0, .int .i64 0, .int .i64 0, .int .i64 0, .int .i64 0]), 7, 64) := by kernel_rfl
set_option maxHeartbeats 400000 in
theorem c_toWorkS (v : Value) (xs : List WorkD) (w : World) (h : SlA w 0 7 encWork v xs) (hl : xs.length ≤ 1048576) :
    Calls Try.prog 28 #[v] w fun e w' => ∃ g, e = .returned (.slice (some ⟨g, 0, none⟩) xs.length xs.length) ∧ Below w.heap.size w w' ∧ SlO w' w.heap.size 7 encWork (.slice (some ⟨g, 0, none⟩) xs.length xs.length) xs := by
  obtain ⟨i0, hi, hz0, hz1, hz2⟩ := info_parts info_Work
  rcases h with ⟨a, cap, rfl, rfl, hcap⟩ | ⟨b, off, cap, rfl, hp, hc, hm, _, hb, hx⟩
  · go_enter Try.func28, Try.ntmps28
    go_wp2_with (at_make; refine wpList_make_full _ rfl _ _ 27 rfl w.heap.size 44 i0 _ 7 Try.underlying27 hi hz0 hz1 _ _ _ _ 0 rfl rfl rfl rfl (by rw [hz2]; omega) (by unfold maxLen; omega) (Nat.le_refl _) ?_)
    intro w1 hown hgr
    have hB0 : Below w.heap.size w w1 := (Below.refl _ _).grown hgr (Nat.le_refl _) (fun k hk => by cases hk)
    have hP0 := PartC.made (cs := ([] : List WorkD).flatMap encWork) hown rfl
    clear hown hgr
    go_wp2
    refine wp_loop_rounds 1 ?_
    rw [rounds_succ]
    go_wp2
    go_ret
    exact ⟨_, rfl, hB0, hP0.own (xs := []) (n := 7) (fun _ => rfl) (Nat.le_refl _) (Nat.le_refl _) (Nat.zero_le _)⟩
  · unfold maxLen at hm
    go_enter Try.func28, Try.ntmps28
    go_wp2_with (at_make; refine wpList_make_full _ rfl _ _ 27 rfl w.heap.size 44 i0 _ 7 Try.underlying27 hi hz0 hz1 _ _ _ _ xs.length rfl rfl rfl rfl (by rw [hz2]; omega) (by unfold maxLen; omega) (Nat.le_refl _) ?_)
    intro w1 hown hgr
    have hP0 := PartC.made (cs := xs.flatMap encWork) hown (flat_len encWork (fun _ => rfl) xs)
    have hB0 : Below w.heap.size w w1 := (Below.refl _ _).grown hgr (Nat.le_refl _) (fun k hk => by cases hk)
    have hfl := hid (flat_len (n := 7) encWork (fun _ => rfl) xs)
    clear hown hgr
    go_wp2
    go_loopw [4] (fun i wr => ∃ k : Nat, k ≤ xs.length ∧ i = .int .i64 k ∧ Below w.heap.size w wr ∧ PartC wr w.heap.size (xs.flatMap encWork) (k * 7)) (fun i _ => xs.length - (intOf i).toNat)
    case atStart => exact ⟨0, Nat.zero_le _, rfl, hB0, by simpa using hP0⟩
    case round =>
      clear hP0 hB0
      obtain ⟨k, hk, rfl, hB, hP⟩ := hrel
      by_cases hlt : k < xs.length
      · have hzr := hP.1
        obtain ⟨hc0, hf0⟩ := bcell hB
        have g0 := hx k hlt 0 (by omega)
        have g1 := hx k hlt 1 (by omega)
        have g2 := hx k hlt 2 (by omega)
        have g3 := hx k hlt 3 (by omega)
        have g4 := hx k hlt 4 (by omega)
        have g5 := hx k hlt 5 (by omega)
        have g6 := hx k hlt 6 (by omega)
        obtain ⟨u0, hu0⟩ := hP.2.2.2.1 (k*7) (by rw [hfl.out]; omega)
        obtain ⟨u1, hu1⟩ := hP.2.2.2.1 (k*7+1) (by rw [hfl.out]; omega)
        obtain ⟨u2, hu2⟩ := hP.2.2.2.1 (k*7+2) (by rw [hfl.out]; omega)
        obtain ⟨u3, hu3⟩ := hP.2.2.2.1 (k*7+3) (by rw [hfl.out]; omega)
        obtain ⟨u4, hu4⟩ := hP.2.2.2.1 (k*7+4) (by rw [hfl.out]; omega)
        obtain ⟨u5, hu5⟩ := hP.2.2.2.1 (k*7+5) (by rw [hfl.out]; omega)
        obtain ⟨u6, hu6⟩ := hP.2.2.2.1 (k*7+6) (by rw [hfl.out]; omega)
        have hfz := hP.2.2.1
        simp only [encWork, List.getD_cons_zero, List.getD_cons_succ, Nat.add_zero] at g0 g1 g2 g3 g4 g5 g6
        go_wp2_with (first | (go_at_call 75; refine (c_toWork _ _ _ _ _ _ _ _).mono ?_; rintro e w1 ⟨rfl, hb⟩; obtain ⟨hc, hf⟩ := bcell hb; have hz := hb.size; (try simp at hz); (try have hz0 : ∀ b, b < w.heap.size → b < w1.heap.size := fun b h => by omega); (try have hz1 : w.heap.size < w1.heap.size := by omega); (try have hz2 : w.heap.size + 1 < w1.heap.size := by omega); (try have hz3 : w.heap.size + 2 < w1.heap.size := by omega)))
        go_roundw
        case rel =>
          have F := fun j hj => (flat_get (n := 7) encWork (fun _ => rfl) xs k hlt j hj).symm
          refine ⟨k + 1, by omega, by go_num, by (repeat' (first | (with_reducible exact Below.refl _ _) | (with_reducible refine Below.alloc ?_ ?_ _) | (with_reducible refine Below.drew ?_) | (with_reducible refine below_drewN ?_ _) | (with_reducible refine Below.setCell ?_ ?_ _) | (with_reducible refine below_via ‹_› ?_ ?_) | (with_reducible refine below_grow ?_ ?_ _ _) | omega | (simp; done) | (simp; omega))), ?_⟩
          exact ((((((((hP.below hb (Nat.le_refl _)).set (by rw [hfl.out]; omega) (F 0 (by omega)) rfl).set (by rw [hfl.out]; omega) (F 1 (by omega)) rfl).set (by rw [hfl.out]; omega) (F 2 (by omega)) rfl).set (by rw [hfl.out]; omega) (F 3 (by omega)) rfl).set (by rw [hfl.out]; omega) (F 4 (by omega)) rfl).set (by rw [hfl.out]; omega) (F 5 (by omega)) rfl).set (by rw [hfl.out]; omega) (F 6 (by omega)) (by omega))
        case measure => simp [intOf]; omega
      · have e : k = xs.length := by omega
        subst e
        go_wp2
        go_ret
        exact ⟨_, rfl, hB, hP.own (xs := xs) (n := 7) (fun _ => rfl) (Nat.le_refl _) (Nat.le_refl _) (by unfold maxLen; omega)⟩
set_option maxHeartbeats 400000 in
theorem c_eqWorkS (v v' : Value) (lo lo' : Nat) (xs : List WorkD) (w : World) (h : SlA w lo 7 encWork v xs) (h' : SlA w lo' 7 encWork v' xs) :
    Calls Try.prog 30 #[v, v'] w fun e w' => e = .returned (.bool true) ∧ Below w.heap.size w w' := by
  rcases h with ⟨a, cap, rfl, rfl, hcap⟩ | ⟨b, off, cap, rfl, hp, hc, hm, _, hb, hx⟩
  · rcases h' with ⟨a', cap', rfl, _, hcap'⟩ | ⟨b', off', cap', rfl, hp', hc', hm', _, hb', hx'⟩
    · go_enter Try.func30, Try.ntmps30
      go_wp2
      refine wp_loop_rounds 1 ?_
      rw [rounds_succ]
      go_wp2
      go_ret
      exact ⟨rfl, by (repeat' (first | (with_reducible exact Below.refl _ _) | (with_reducible refine Below.alloc ?_ ?_ _) | (with_reducible refine Below.drew ?_) | (with_reducible refine below_drewN ?_ _) | (with_reducible refine Below.setCell ?_ ?_ _) | (with_reducible refine below_via ‹_› ?_ ?_) | (with_reducible refine below_grow ?_ ?_ _ _) | omega | (simp; done) | (simp; omega)))⟩
    · simp at hp'
  · rcases h' with ⟨a', cap', rfl, e', hcap'⟩ | ⟨b', off', cap', rfl, hp', hc', hm', _, hb', hx'⟩
    · subst e'; simp at hp
    · unfold maxLen at hm hm'
      go_enter Try.func30, Try.ntmps30
      go_wp2
      go_loopw [5] (fun i wr => ∃ k : Nat, k ≤ xs.length ∧ i = .int .i64 k ∧ Below w.heap.size w wr) (fun i _ => xs.length - (intOf i).toNat)
      case atStart => exact ⟨0, Nat.zero_le _, rfl, by (repeat' (first | (with_reducible exact Below.refl _ _) | (with_reducible refine Below.alloc ?_ ?_ _) | (with_reducible refine Below.drew ?_) | (with_reducible refine below_drewN ?_ _) | (with_reducible refine Below.setCell ?_ ?_ _) | (with_reducible refine below_via ‹_› ?_ ?_) | (with_reducible refine below_grow ?_ ?_ _ _) | omega | (simp; done) | (simp; omega)))⟩
      case round =>
        obtain ⟨k, hk, rfl, hB⟩ := hrel
        obtain ⟨hc0, hf0⟩ := bcell hB
        have hz := hB.size
        by_cases hlt : k < xs.length
        · have hlI : (k : Int) < xs.length := by omega
          have g0 := (hc0 b _ hb).trans (hx k hlt 0 (by omega))
          have g1 := (hc0 b _ hb).trans (hx k hlt 1 (by omega))
          have g2 := (hc0 b _ hb).trans (hx k hlt 2 (by omega))
          have g3 := (hc0 b _ hb).trans (hx k hlt 3 (by omega))
          have g4 := (hc0 b _ hb).trans (hx k hlt 4 (by omega))
          have g5 := (hc0 b _ hb).trans (hx k hlt 5 (by omega))
          have g6 := (hc0 b _ hb).trans (hx k hlt 6 (by omega))
          have k0 := (hc0 b' _ hb').trans (hx' k hlt 0 (by omega))
          have k1 := (hc0 b' _ hb').trans (hx' k hlt 1 (by omega))
          have k2 := (hc0 b' _ hb').trans (hx' k hlt 2 (by omega))
          have k3 := (hc0 b' _ hb').trans (hx' k hlt 3 (by omega))
          have k4 := (hc0 b' _ hb').trans (hx' k hlt 4 (by omega))
          have k5 := (hc0 b' _ hb').trans (hx' k hlt 5 (by omega))
          have k6 := (hc0 b' _ hb').trans (hx' k hlt 6 (by omega))
          simp only [encWork, List.getD_cons_zero, List.getD_cons_succ, Nat.add_zero] at g0 k0 g1 k1 g2 k2 g3 k3 g4 k4 g5 k5 g6 k6
          clear hc0 hf0 hx hx'
          go_wp2
          go_still_tail 8, (by kernel_rfl)
          change wpList _ _ _ _ _ wr.drew
          generalize hwd : wr.drew = wd
          have hBd : Below w.heap.size w wd := hwd ▸ hB.drew
          have hzd := hBd.size
          clear hwd
          go_wp2_with (first | (go_at_call 78; refine (c_eqWork _ _ _ _ _ _ _ _).mono ?_; rintro e w1 ⟨rfl, hb⟩; obtain ⟨hc, hf⟩ := bcell hb; have hz := hb.size; (try simp at hz); (try have hz0 : ∀ b, b < w.heap.size → b < w1.heap.size := fun b h => by omega); (try have hz1 : w.heap.size < w1.heap.size := by omega); (try have hz2 : w.heap.size + 1 < w1.heap.size := by omega); (try have hz3 : w.heap.size + 2 < w1.heap.size := by omega)))
          go_roundw
          case rel => exact ⟨k + 1, by omega, by go_num, by (repeat' (first | (with_reducible exact Below.refl _ _) | (with_reducible refine Below.alloc ?_ ?_ _) | (with_reducible refine Below.drew ?_) | (with_reducible refine below_drewN ?_ _) | (with_reducible refine Below.setCell ?_ ?_ _) | (with_reducible refine below_via ‹_› ?_ ?_) | (with_reducible refine below_grow ?_ ?_ _ _) | omega | (simp; done) | (simp; omega)))⟩
          case measure => simp [intOf]; omega
        · go_wp2
          go_ret
          exact ⟨rfl, by (repeat' (first | (with_reducible exact Below.refl _ _) | (with_reducible refine Below.alloc ?_ ?_ _) | (with_reducible refine Below.drew ?_) | (with_reducible refine below_drewN ?_ _) | (with_reducible refine Below.setCell ?_ ?_ _) | (with_reducible refine below_via ‹_› ?_ ?_) | (with_reducible refine below_grow ?_ ?_ _ _) | omega | (simp; done) | (simp; omega)))⟩
end Go.Proofs.Ytmolcfagmiecjaa
