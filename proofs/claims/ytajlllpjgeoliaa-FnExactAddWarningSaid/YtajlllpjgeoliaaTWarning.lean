/- Warning: its data, how it reads, its copy, size and equality; slices of it. Printed by wip/gen.py. -/
import Derived.Test.YtajlllpjgeoliaaNames
import Derived.Test.YtajlllpjgeoliaaSl
import Derived.StillTailTactics
import Derived.Test.YtajlllpjgeoliaaTPoint
namespace Go.Proofs.Ytajlllpjgeoliaa
open Go.RowKit
set_option maxRecDepth 100000

structure WarningD where
  fNumber : Int
  fPriority : Int
  fFrom : Int
  fUntil : Int
  fAtX : Int
  fAtY : Int
  fRadius : Int
  fWords : ByteArray
def encWarning (d : WarningD) : List Value := [.int .i64 d.fNumber, .int .i64 d.fPriority, .int .i64 d.fFrom, .int .i64 d.fUntil, .int .i64 d.fAtX, .int .i64 d.fAtY, .int .i64 d.fRadius, .string d.fWords]
def okWarning (d : WarningD) : Prop := I64 d.fNumber ∧ I64 d.fPriority ∧ I64 d.fFrom ∧ I64 d.fUntil ∧ I64 d.fAtX ∧ I64 d.fAtY ∧ I64 d.fRadius ∧ d.fWords.size ≤ maxLen
theorem lenWarning (d : WarningD) : (encWarning d).length = 8 := rfl

theorem cells_Warning : Try.prog.cellsOf 26 = 8 := by kernel_rfl
theorem rds_Warning {w : World} {cs : List Value} (h : Rds Try.prog w 26 cs) : ∃ d : WarningD, cs = encWarning d ∧ okWarning d := by
  obtain ⟨hl, hf⟩ := Rds.st Try.underlying26 h
  rw [cells_Warning] at hl
  have e : ∃ c0 c1 c2 c3 c4 c5 c6 c7, cs = [c0, c1, c2, c3, c4, c5, c6, c7] := by
    match cs, hl with
    | [c0, c1, c2, c3, c4, c5, c6, c7], _ => exact ⟨c0, c1, c2, c3, c4, c5, c6, c7, rfl⟩
  obtain ⟨c0, c1, c2, c3, c4, c5, c6, c7, rfl⟩ := e
  simp only [List.mem_cons, List.not_mem_nil, or_false, forall_eq_or_imp, forall_eq, cells_Point, cells_int64, cells_string] at hf
  obtain ⟨h0, h1, h2, h3, h4, h5, h6⟩ := hf
  obtain ⟨x0, e0, w0⟩ := Rds.int Try.underlying2 h0
  obtain ⟨x1, e1, w1⟩ := Rds.int Try.underlying2 h1
  obtain ⟨x2, e2, w2⟩ := Rds.int Try.underlying2 h2
  obtain ⟨x3, e3, w3⟩ := Rds.int Try.underlying2 h3
  obtain ⟨y4, e4, w4⟩ := rds_Point h4
  obtain ⟨x6, e6, w6⟩ := Rds.int Try.underlying2 h5
  obtain ⟨x7, e7, w7⟩ := Rds.str Try.underlying9 h6
  simp [encPoint] at e0 e1 e2 e3 e4 e6 e7
  subst e0
  subst e1
  subst e2
  subst e3
  obtain ⟨rfl, rfl⟩ := e4
  subst e6
  subst e7
  exact ⟨⟨x0, x1, x2, x3, y4.fX, y4.fY, x6, x7⟩, rfl, i64_of w0, i64_of w1, i64_of w2, i64_of w3, w4.1, w4.2, i64_of w6, w7⟩
theorem open_Warning {H : Type} {enc : TypeId × Value → H} {W : World} {base : Nat} {v : Value} {d : DataW H} {p : List MemPlace} (hv : Value.okWide Try.prog W .any base 26 v) (h : DataW.Trod enc Try.prog W 0 (fun _ => true) true 26 v d p) :
    ∃ d : WarningD, v = .agg #[.int .i64 d.fNumber, .int .i64 d.fPriority, .int .i64 d.fFrom, .int .i64 d.fUntil, .int .i64 d.fAtX, .int .i64 d.fAtY, .int .i64 d.fRadius, .string d.fWords] ∧ okWarning d := by
  obtain ⟨⟨l⟩, rfl, hsz⟩ := WideShapes.okWide_struct Try.underlying26 hv
  obtain ⟨d, e, hd⟩ := rds_Warning (rds_arg h)
  exact ⟨d, congrArg (fun l => Value.agg ⟨l⟩) e, hd⟩
theorem open_WarningS {H : Type} {enc : TypeId × Value → H} {W : World} {base : Nat} {v : Value} {d : DataW H} {p : List MemPlace} (hv : Value.okWide Try.prog W .any base 22 v) (h : DataW.Trod enc Try.prog W 0 (fun _ => true) true 22 v d p) :
    ∃ xs : List WarningD, SlA W 0 8 encWarning v xs ∧ ∀ x ∈ xs, okWarning x := by
  obtain ⟨a, len, cap, rfl⟩ := WideShapes.okWide_slice Try.underlying22 hv
  exact SlA.of_rds Try.underlying22 cells_Warning (by omega) (fun es h => rds_Warning h) (rds_arg h)
theorem c_toWarning (x0 : Int) (x1 : Int) (x2 : Int) (x3 : Int) (x4 : Int) (x5 : Int) (x6 : Int) (x7 : ByteArray) (w : World) :
    Calls Try.prog 10 #[.agg #[.int .i64 x0, .int .i64 x1, .int .i64 x2, .int .i64 x3, .int .i64 x4, .int .i64 x5, .int .i64 x6, .string x7]] w fun e w' => e = .returned (.agg #[.int .i64 x0, .int .i64 x1, .int .i64 x2, .int .i64 x3, .int .i64 x4, .int .i64 x5, .int .i64 x6, .string x7]) ∧ Below w.heap.size w w' := by
  go_enter Try.func10, Try.ntmps10
  go_wp2_with (first | (go_at_call 31; refine (c_toPoint _ _ _).mono ?_; rintro e w1 ⟨rfl, hb⟩; obtain ⟨hc, hf⟩ := bcell hb; have hz := hb.size; (try simp at hz); (try have hz0 : ∀ b, b < w.heap.size → b < w1.heap.size := fun b h => by omega); (try have hz1 : w.heap.size < w1.heap.size := by omega); (try have hz2 : w.heap.size + 1 < w1.heap.size := by omega); (try have hz3 : w.heap.size + 2 < w1.heap.size := by omega)))
  exact bodyPost_ret (v := .agg #[.int .i64 x0, .int .i64 x1, .int .i64 x2, .int .i64 x3, .int .i64 x4, .int .i64 x5, .int .i64 x6, .string x7]) (by simp [results, Try.results10, go_sem, *]) rfl ⟨rfl, by (repeat' (first | (with_reducible exact Below.refl _ _) | (with_reducible refine Below.alloc ?_ ?_ _) | (with_reducible refine Below.drew ?_) | (with_reducible refine below_drewN ?_ _) | (with_reducible refine Below.setCell ?_ ?_ _) | (with_reducible refine below_via ‹_› ?_ ?_) | (with_reducible refine below_grow ?_ ?_ _ _) | omega | (simp; done) | (simp; omega)))⟩
def sizeWarning (d : WarningD) : Int := (d.fWords.size : Int)
theorem sizeWarning_nn (d : WarningD) : 0 ≤ sizeWarning d := by unfold sizeWarning; omega
theorem c_szWarning (x0 : Int) (x1 : Int) (x2 : Int) (x3 : Int) (x4 : Int) (x5 : Int) (x6 : Int) (x7 : ByteArray) (n : Int) (w : World) (hx7 : x7.size ≤ maxLen) (h0 : -1 ≤ n) (h1 : n ≤ 1048576) :
    Calls Try.prog 7 #[.agg #[.int .i64 x0, .int .i64 x1, .int .i64 x2, .int .i64 x3, .int .i64 x4, .int .i64 x5, .int .i64 x6, .string x7], .int .i64 n] w fun e w' => e = .returned (.int .i64 (szV n ((x7.size : Int)))) ∧ Below w.heap.size w w' := by
  unfold maxLen at hx7
  go_enter Try.func7, Try.ntmps7
  go_wp2
  all_goals (go_ret; go_light; refine ⟨ret_int (by unfold szV; split <;> omega), by (repeat' (first | (with_reducible exact Below.refl _ _) | (with_reducible refine Below.alloc ?_ ?_ _) | (with_reducible refine Below.drew ?_) | (with_reducible refine below_drewN ?_ _) | (with_reducible refine Below.setCell ?_ ?_ _) | (with_reducible refine below_via ‹_› ?_ ?_) | (with_reducible refine below_grow ?_ ?_ _ _) | omega | (simp; done) | (simp; omega)))⟩)
theorem c_eqWarning (x0 : Int) (x1 : Int) (x2 : Int) (x3 : Int) (x4 : Int) (x5 : Int) (x6 : Int) (x7 : ByteArray) (w : World) :
    Calls Try.prog 37 #[.agg #[.int .i64 x0, .int .i64 x1, .int .i64 x2, .int .i64 x3, .int .i64 x4, .int .i64 x5, .int .i64 x6, .string x7], .agg #[.int .i64 x0, .int .i64 x1, .int .i64 x2, .int .i64 x3, .int .i64 x4, .int .i64 x5, .int .i64 x6, .string x7]] w fun e w' => e = .returned (.bool true) ∧ Below w.heap.size w w' := by
  go_enter Try.func37, Try.ntmps37
  go_wp2_with (first | (go_at_call 63; refine (c_eqPoint _ _ _).mono ?_; rintro e w1 ⟨rfl, hb⟩; obtain ⟨hc, hf⟩ := bcell hb; have hz := hb.size; (try simp at hz); (try have hz0 : ∀ b, b < w.heap.size → b < w1.heap.size := fun b h => by omega); (try have hz1 : w.heap.size < w1.heap.size := by omega); (try have hz2 : w.heap.size + 1 < w1.heap.size := by omega); (try have hz3 : w.heap.size + 2 < w1.heap.size := by omega)))
  go_ret
  exact ⟨rfl, by (repeat' (first | (with_reducible exact Below.refl _ _) | (with_reducible refine Below.alloc ?_ ?_ _) | (with_reducible refine Below.drew ?_) | (with_reducible refine below_drewN ?_ _) | (with_reducible refine Below.setCell ?_ ?_ _) | (with_reducible refine below_via ‹_› ?_ ?_) | (with_reducible refine below_grow ?_ ?_ _ _) | omega | (simp; done) | (simp; omega)))⟩
def totWarning : List WarningD → Int
  | [] => 0
  | d :: l => sizeWarning d + totWarning l
theorem totWarning_nn : ∀ l : List WarningD, 0 ≤ totWarning l
  | [] => by simp [totWarning]
  | d :: l => by have := totWarning_nn l; have := sizeWarning_nn d; simp only [totWarning]; omega
set_option maxHeartbeats 400000 in
theorem c_szWarningS (v : Value) (xs : List WarningD) (n : Int) (w : World) (h : SlA w 0 8 encWarning v xs) (hok : ∀ x ∈ xs, okWarning x) (h0 : -1 ≤ n) (h1 : n ≤ 1048576) :
    Calls Try.prog 6 #[v, .int .i64 n] w fun e w' => e = .returned (.int .i64 (szV n (xs.length + totWarning xs))) ∧ Below w.heap.size w w' := by
  rcases h with ⟨a, cap, rfl, rfl, hcap⟩ | ⟨b, off, cap, rfl, hp, hc, hm, _, hb, hx⟩
  · by_cases hn : n < 0
    · go_enter Try.func6, Try.ntmps6
      go_wp2
      go_ret
      exact ⟨ret_int (by unfold szV; simp [totWarning]; omega), by (repeat' (first | (with_reducible exact Below.refl _ _) | (with_reducible refine Below.alloc ?_ ?_ _) | (with_reducible refine Below.drew ?_) | (with_reducible refine below_drewN ?_ _) | (with_reducible refine Below.setCell ?_ ?_ _) | (with_reducible refine below_via ‹_› ?_ ?_) | (with_reducible refine below_grow ?_ ?_ _ _) | omega | (simp; done) | (simp; omega)))⟩
    · go_enter Try.func6, Try.ntmps6
      go_wp2
      refine wp_loop_rounds 1 ?_
      rw [rounds_succ]
      go_wp2
      go_ret
      exact ⟨ret_int (by unfold szV; simp [totWarning]; omega), by (repeat' (first | (with_reducible exact Below.refl _ _) | (with_reducible refine Below.alloc ?_ ?_ _) | (with_reducible refine Below.drew ?_) | (with_reducible refine below_drewN ?_ _) | (with_reducible refine Below.setCell ?_ ?_ _) | (with_reducible refine below_via ‹_› ?_ ?_) | (with_reducible refine below_grow ?_ ?_ _ _) | omega | (simp; done) | (simp; omega)))⟩
  · unfold maxLen at hm
    have hT := totWarning_nn xs
    by_cases hn : n - xs.length < 0
    · go_enter Try.func6, Try.ntmps6
      go_wp2
      go_ret
      exact ⟨ret_int (by unfold szV; split <;> omega), by (repeat' (first | (with_reducible exact Below.refl _ _) | (with_reducible refine Below.alloc ?_ ?_ _) | (with_reducible refine Below.drew ?_) | (with_reducible refine below_drewN ?_ _) | (with_reducible refine Below.setCell ?_ ?_ _) | (with_reducible refine below_via ‹_› ?_ ?_) | (with_reducible refine below_grow ?_ ?_ _ _) | omega | (simp; done) | (simp; omega)))⟩
    · go_enter Try.func6, Try.ntmps6
      go_wp2
      go_loopw [1, 5] (fun t i wr => ∃ (k : Nat) (m : Int), k ≤ xs.length ∧ i = .int .i64 k ∧ t = .int .i64 m ∧ 0 ≤ m ∧ m ≤ n ∧ m + totWarning xs = n - xs.length + totWarning (xs.drop k) ∧ Below w.heap.size w wr) (fun _ i _ => xs.length - (intOf i).toNat)
      case atStart => exact ⟨0, _, Nat.zero_le _, rfl, rfl, by omega, by omega, by simp, by (repeat' (first | (with_reducible exact Below.refl _ _) | (with_reducible refine Below.alloc ?_ ?_ _) | (with_reducible refine Below.drew ?_) | (with_reducible refine below_drewN ?_ _) | (with_reducible refine Below.setCell ?_ ?_ _) | (with_reducible refine below_via ‹_› ?_ ?_) | (with_reducible refine below_grow ?_ ?_ _ _) | omega | (simp; done) | (simp; omega)))⟩
      case round =>
        obtain ⟨k, m, hk, rfl, rfl, hm0, hmn, hmt, hB⟩ := hrel
        obtain ⟨hc0, hf0⟩ := bcell hB
        have hz := hB.size
        by_cases hlt : k < xs.length
        · have hmt' := hmt
          rw [drop_cons xs k hlt, totWarning] at hmt'
          have hnn := sizeWarning_nn xs[k]
          have hnd := totWarning_nn (xs.drop (k + 1))
          have HO := hid (hok xs[k] (List.getElem_mem hlt))
          have HT := hid hmt'
          have HN := hid (And.intro hnn hnd)
          have HT0 := hid hT
          have hm1 : m ≤ 1048576 := by omega
          have g0 := (hc0 b _ hb).trans (hx k hlt 0 (by omega))
          have g1 := (hc0 b _ hb).trans (hx k hlt 1 (by omega))
          have g2 := (hc0 b _ hb).trans (hx k hlt 2 (by omega))
          have g3 := (hc0 b _ hb).trans (hx k hlt 3 (by omega))
          have g4 := (hc0 b _ hb).trans (hx k hlt 4 (by omega))
          have g5 := (hc0 b _ hb).trans (hx k hlt 5 (by omega))
          have g6 := (hc0 b _ hb).trans (hx k hlt 6 (by omega))
          have g7 := (hc0 b _ hb).trans (hx k hlt 7 (by omega))
          simp only [encWarning, List.getD_cons_zero, List.getD_cons_succ, Nat.add_zero] at g0 g1 g2 g3 g4 g5 g6 g7
          clear hc0 hf0 hx hmt hmt' hnn hnd hT
          go_wp2_with (go_at_call 7; refine (c_szWarning xs[k].fNumber xs[k].fPriority xs[k].fFrom xs[k].fUntil xs[k].fAtX xs[k].fAtY xs[k].fRadius xs[k].fWords m _ (HO.out.2.2.2.2.2.2.2) (by omega) hm1).mono ?_; rintro e w1 ⟨rfl, hb⟩; obtain ⟨hc, hf⟩ := bcell hb; have hz := hb.size; (try simp at hz); (try have hz0 : ∀ b, b < w.heap.size → b < w1.heap.size := fun b h => by omega); (try have hz1 : w.heap.size < w1.heap.size := by omega); (try have hz2 : w.heap.size + 1 < w1.heap.size := by omega); (try have hz3 : w.heap.size + 2 < w1.heap.size := by omega))
          · go_ret
            go_light
            have hneg : szV m (sizeWarning xs[k]) < 0 := by assumption
            exact ⟨ret_int (szV_eq_neg (by have := HN.out; have := HT.out; have := HT0.out; have := szV_neg hneg; omega)), by (repeat' (first | (with_reducible exact Below.refl _ _) | (with_reducible refine Below.alloc ?_ ?_ _) | (with_reducible refine Below.drew ?_) | (with_reducible refine below_drewN ?_ _) | (with_reducible refine Below.setCell ?_ ?_ _) | (with_reducible refine below_via ‹_› ?_ ?_) | (with_reducible refine below_grow ?_ ?_ _ _) | omega | (simp; done) | (simp; omega)))⟩
          · have hpos : 0 ≤ szV m (sizeWarning xs[k]) := by assumption
            go_roundw
            case rel =>
              have e1 := szV_pos (n := m) (m := sizeWarning xs[k]) (by omega)
              exact ⟨k + 1, szV m (sizeWarning xs[k]), by omega, by go_num, rfl, by omega, by have := HN.out; omega, by have := HT.out; omega, by (repeat' (first | (with_reducible exact Below.refl _ _) | (with_reducible refine Below.alloc ?_ ?_ _) | (with_reducible refine Below.drew ?_) | (with_reducible refine below_drewN ?_ _) | (with_reducible refine Below.setCell ?_ ?_ _) | (with_reducible refine below_via ‹_› ?_ ?_) | (with_reducible refine below_grow ?_ ?_ _ _) | omega | (simp; done) | (simp; omega)))⟩
            case measure => simp [intOf]; omega
        · have e : k = xs.length := by omega
          have hE : m = szV n (xs.length + totWarning xs) := by
            rw [e, List.drop_length, totWarning] at hmt
            unfold szV; split <;> omega
          have HE := hid hE
          clear hE hmt e
          go_wp2
          go_ret
          exact ⟨ret_int HE.out, by (repeat' (first | (with_reducible exact Below.refl _ _) | (with_reducible refine Below.alloc ?_ ?_ _) | (with_reducible refine Below.drew ?_) | (with_reducible refine below_drewN ?_ _) | (with_reducible refine Below.setCell ?_ ?_ _) | (with_reducible refine below_via ‹_› ?_ ?_) | (with_reducible refine below_grow ?_ ?_ _ _) | omega | (simp; done) | (simp; omega)))⟩
theorem info_Warning : (Try.prog.info? 35).map (fun i => (i.zero, i.size, i.bytes)) = some (some (.agg #[.int .i64 0, .int .i64 0, .int .i64 0, .int .i64 0, .int .i64 0, .int .i64 0, .int .i64 0, .string ⟨#[]⟩]), 8, 72) := by kernel_rfl
set_option maxHeartbeats 400000 in
theorem c_toWarningS (v : Value) (xs : List WarningD) (w : World) (h : SlA w 0 8 encWarning v xs) (hl : xs.length ≤ 1048576) :
    Calls Try.prog 9 #[v] w fun e w' => ∃ g, e = .returned (.slice (some ⟨g, 0, none⟩) xs.length xs.length) ∧ Below w.heap.size w w' ∧ SlO w' w.heap.size 8 encWarning (.slice (some ⟨g, 0, none⟩) xs.length xs.length) xs := by
  obtain ⟨i0, hi, hz0, hz1, hz2⟩ := info_parts info_Warning
  rcases h with ⟨a, cap, rfl, rfl, hcap⟩ | ⟨b, off, cap, rfl, hp, hc, hm, _, hb, hx⟩
  · go_enter Try.func9, Try.ntmps9
    go_wp2_with (at_make; refine wpList_make_full _ rfl _ _ 29 rfl w.heap.size 35 i0 _ 8 Try.underlying29 hi hz0 hz1 _ _ _ _ 0 rfl rfl rfl rfl (by rw [hz2]; omega) (by unfold maxLen; omega) (Nat.le_refl _) ?_)
    intro w1 hown hgr
    have hB0 : Below w.heap.size w w1 := (Below.refl _ _).grown hgr (Nat.le_refl _) (fun k hk => by cases hk)
    have hP0 := PartC.made (cs := ([] : List WarningD).flatMap encWarning) hown rfl
    clear hown hgr
    go_wp2
    refine wp_loop_rounds 1 ?_
    rw [rounds_succ]
    go_wp2
    go_ret
    exact ⟨_, rfl, hB0, hP0.own (xs := []) (n := 8) (fun _ => rfl) (Nat.le_refl _) (Nat.le_refl _) (Nat.zero_le _)⟩
  · unfold maxLen at hm
    go_enter Try.func9, Try.ntmps9
    go_wp2_with (at_make; refine wpList_make_full _ rfl _ _ 29 rfl w.heap.size 35 i0 _ 8 Try.underlying29 hi hz0 hz1 _ _ _ _ xs.length rfl rfl rfl rfl (by rw [hz2]; omega) (by unfold maxLen; omega) (Nat.le_refl _) ?_)
    intro w1 hown hgr
    have hP0 := PartC.made (cs := xs.flatMap encWarning) hown (flat_len encWarning (fun _ => rfl) xs)
    have hB0 : Below w.heap.size w w1 := (Below.refl _ _).grown hgr (Nat.le_refl _) (fun k hk => by cases hk)
    have hfl := hid (flat_len (n := 8) encWarning (fun _ => rfl) xs)
    clear hown hgr
    go_wp2
    go_loopw [4] (fun i wr => ∃ k : Nat, k ≤ xs.length ∧ i = .int .i64 k ∧ Below w.heap.size w wr ∧ PartC wr w.heap.size (xs.flatMap encWarning) (k * 8)) (fun i _ => xs.length - (intOf i).toNat)
    case atStart => exact ⟨0, Nat.zero_le _, rfl, hB0, by simpa using hP0⟩
    case round =>
      clear hP0 hB0
      obtain ⟨k, hk, rfl, hB, hP⟩ := hrel
      by_cases hlt : k < xs.length
      · have hzr := hP.1
        obtain ⟨hc0, hf0⟩ := bcell hB
        have g0 := hx k hlt 0 (by omega)
        have g1 := hx k hlt 1 (by omega)
        have g2 := hx k hlt 2 (by omega)
        have g3 := hx k hlt 3 (by omega)
        have g4 := hx k hlt 4 (by omega)
        have g5 := hx k hlt 5 (by omega)
        have g6 := hx k hlt 6 (by omega)
        have g7 := hx k hlt 7 (by omega)
        obtain ⟨u0, hu0⟩ := hP.2.2.2.1 (k*8) (by rw [hfl.out]; omega)
        obtain ⟨u1, hu1⟩ := hP.2.2.2.1 (k*8+1) (by rw [hfl.out]; omega)
        obtain ⟨u2, hu2⟩ := hP.2.2.2.1 (k*8+2) (by rw [hfl.out]; omega)
        obtain ⟨u3, hu3⟩ := hP.2.2.2.1 (k*8+3) (by rw [hfl.out]; omega)
        obtain ⟨u4, hu4⟩ := hP.2.2.2.1 (k*8+4) (by rw [hfl.out]; omega)
        obtain ⟨u5, hu5⟩ := hP.2.2.2.1 (k*8+5) (by rw [hfl.out]; omega)
        obtain ⟨u6, hu6⟩ := hP.2.2.2.1 (k*8+6) (by rw [hfl.out]; omega)
        obtain ⟨u7, hu7⟩ := hP.2.2.2.1 (k*8+7) (by rw [hfl.out]; omega)
        have hfz := hP.2.2.1
        simp only [encWarning, List.getD_cons_zero, List.getD_cons_succ, Nat.add_zero] at g0 g1 g2 g3 g4 g5 g6 g7
        go_wp2_with (first | (go_at_call 10; refine (c_toWarning _ _ _ _ _ _ _ _ _).mono ?_; rintro e w1 ⟨rfl, hb⟩; obtain ⟨hc, hf⟩ := bcell hb; have hz := hb.size; (try simp at hz); (try have hz0 : ∀ b, b < w.heap.size → b < w1.heap.size := fun b h => by omega); (try have hz1 : w.heap.size < w1.heap.size := by omega); (try have hz2 : w.heap.size + 1 < w1.heap.size := by omega); (try have hz3 : w.heap.size + 2 < w1.heap.size := by omega)))
        go_roundw
        case rel =>
          have F := fun j hj => (flat_get (n := 8) encWarning (fun _ => rfl) xs k hlt j hj).symm
          refine ⟨k + 1, by omega, by go_num, by (repeat' (first | (with_reducible exact Below.refl _ _) | (with_reducible refine Below.alloc ?_ ?_ _) | (with_reducible refine Below.drew ?_) | (with_reducible refine below_drewN ?_ _) | (with_reducible refine Below.setCell ?_ ?_ _) | (with_reducible refine below_via ‹_› ?_ ?_) | (with_reducible refine below_grow ?_ ?_ _ _) | omega | (simp; done) | (simp; omega))), ?_⟩
          exact (((((((((hP.below hb (Nat.le_refl _)).set (by rw [hfl.out]; omega) (F 0 (by omega)) rfl).set (by rw [hfl.out]; omega) (F 1 (by omega)) rfl).set (by rw [hfl.out]; omega) (F 2 (by omega)) rfl).set (by rw [hfl.out]; omega) (F 3 (by omega)) rfl).set (by rw [hfl.out]; omega) (F 4 (by omega)) rfl).set (by rw [hfl.out]; omega) (F 5 (by omega)) rfl).set (by rw [hfl.out]; omega) (F 6 (by omega)) rfl).set (by rw [hfl.out]; omega) (F 7 (by omega)) (by omega))
        case measure => simp [intOf]; omega
      · have e : k = xs.length := by omega
        subst e
        go_wp2
        go_ret
        exact ⟨_, rfl, hB, hP.own (xs := xs) (n := 8) (fun _ => rfl) (Nat.le_refl _) (Nat.le_refl _) (by unfold maxLen; omega)⟩
set_option maxHeartbeats 400000 in
theorem c_eqWarningS (v v' : Value) (lo lo' : Nat) (xs : List WarningD) (w : World) (h : SlA w lo 8 encWarning v xs) (h' : SlA w lo' 8 encWarning v' xs) :
    Calls Try.prog 12 #[v, v'] w fun e w' => e = .returned (.bool true) ∧ Below w.heap.size w w' := by
  rcases h with ⟨a, cap, rfl, rfl, hcap⟩ | ⟨b, off, cap, rfl, hp, hc, hm, _, hb, hx⟩
  · rcases h' with ⟨a', cap', rfl, _, hcap'⟩ | ⟨b', off', cap', rfl, hp', hc', hm', _, hb', hx'⟩
    · go_enter Try.func12, Try.ntmps12
      go_wp2
      refine wp_loop_rounds 1 ?_
      rw [rounds_succ]
      go_wp2
      go_ret
      exact ⟨rfl, by (repeat' (first | (with_reducible exact Below.refl _ _) | (with_reducible refine Below.alloc ?_ ?_ _) | (with_reducible refine Below.drew ?_) | (with_reducible refine below_drewN ?_ _) | (with_reducible refine Below.setCell ?_ ?_ _) | (with_reducible refine below_via ‹_› ?_ ?_) | (with_reducible refine below_grow ?_ ?_ _ _) | omega | (simp; done) | (simp; omega)))⟩
    · simp at hp'
  · rcases h' with ⟨a', cap', rfl, e', hcap'⟩ | ⟨b', off', cap', rfl, hp', hc', hm', _, hb', hx'⟩
    · subst e'; simp at hp
    · unfold maxLen at hm hm'
      go_enter Try.func12, Try.ntmps12
      go_wp2
      go_loopw [5] (fun i wr => ∃ k : Nat, k ≤ xs.length ∧ i = .int .i64 k ∧ Below w.heap.size w wr) (fun i _ => xs.length - (intOf i).toNat)
      case atStart => exact ⟨0, Nat.zero_le _, rfl, by (repeat' (first | (with_reducible exact Below.refl _ _) | (with_reducible refine Below.alloc ?_ ?_ _) | (with_reducible refine Below.drew ?_) | (with_reducible refine below_drewN ?_ _) | (with_reducible refine Below.setCell ?_ ?_ _) | (with_reducible refine below_via ‹_› ?_ ?_) | (with_reducible refine below_grow ?_ ?_ _ _) | omega | (simp; done) | (simp; omega)))⟩
      case round =>
        obtain ⟨k, hk, rfl, hB⟩ := hrel
        obtain ⟨hc0, hf0⟩ := bcell hB
        have hz := hB.size
        by_cases hlt : k < xs.length
        · have hlI : (k : Int) < xs.length := by omega
          have g0 := (hc0 b _ hb).trans (hx k hlt 0 (by omega))
          have g1 := (hc0 b _ hb).trans (hx k hlt 1 (by omega))
          have g2 := (hc0 b _ hb).trans (hx k hlt 2 (by omega))
          have g3 := (hc0 b _ hb).trans (hx k hlt 3 (by omega))
          have g4 := (hc0 b _ hb).trans (hx k hlt 4 (by omega))
          have g5 := (hc0 b _ hb).trans (hx k hlt 5 (by omega))
          have g6 := (hc0 b _ hb).trans (hx k hlt 6 (by omega))
          have g7 := (hc0 b _ hb).trans (hx k hlt 7 (by omega))
          have k0 := (hc0 b' _ hb').trans (hx' k hlt 0 (by omega))
          have k1 := (hc0 b' _ hb').trans (hx' k hlt 1 (by omega))
          have k2 := (hc0 b' _ hb').trans (hx' k hlt 2 (by omega))
          have k3 := (hc0 b' _ hb').trans (hx' k hlt 3 (by omega))
          have k4 := (hc0 b' _ hb').trans (hx' k hlt 4 (by omega))
          have k5 := (hc0 b' _ hb').trans (hx' k hlt 5 (by omega))
          have k6 := (hc0 b' _ hb').trans (hx' k hlt 6 (by omega))
          have k7 := (hc0 b' _ hb').trans (hx' k hlt 7 (by omega))
          simp only [encWarning, List.getD_cons_zero, List.getD_cons_succ, Nat.add_zero] at g0 k0 g1 k1 g2 k2 g3 k3 g4 k4 g5 k5 g6 k6 g7 k7
          clear hc0 hf0 hx hx'
          go_wp2
          go_still_tail 8, (by kernel_rfl)
          change wpList _ _ _ _ _ wr.drew
          generalize hwd : wr.drew = wd
          have hBd : Below w.heap.size w wd := hwd ▸ hB.drew
          have hzd := hBd.size
          clear hwd
          go_wp2_with (first | (go_at_call 37; refine (c_eqWarning _ _ _ _ _ _ _ _ _).mono ?_; rintro e w1 ⟨rfl, hb⟩; obtain ⟨hc, hf⟩ := bcell hb; have hz := hb.size; (try simp at hz); (try have hz0 : ∀ b, b < w.heap.size → b < w1.heap.size := fun b h => by omega); (try have hz1 : w.heap.size < w1.heap.size := by omega); (try have hz2 : w.heap.size + 1 < w1.heap.size := by omega); (try have hz3 : w.heap.size + 2 < w1.heap.size := by omega)))
          go_roundw
          case rel => exact ⟨k + 1, by omega, by go_num, by (repeat' (first | (with_reducible exact Below.refl _ _) | (with_reducible refine Below.alloc ?_ ?_ _) | (with_reducible refine Below.drew ?_) | (with_reducible refine below_drewN ?_ _) | (with_reducible refine Below.setCell ?_ ?_ _) | (with_reducible refine below_via ‹_› ?_ ?_) | (with_reducible refine below_grow ?_ ?_ _ _) | omega | (simp; done) | (simp; omega)))⟩
          case measure => simp [intOf]; omega
        · go_wp2
          go_ret
          exact ⟨rfl, by (repeat' (first | (with_reducible exact Below.refl _ _) | (with_reducible refine Below.alloc ?_ ?_ _) | (with_reducible refine Below.drew ?_) | (with_reducible refine below_drewN ?_ _) | (with_reducible refine Below.setCell ?_ ?_ _) | (with_reducible refine below_via ‹_› ?_ ?_) | (with_reducible refine below_grow ?_ ?_ _ _) | omega | (simp; done) | (simp; omega)))⟩
end Go.Proofs.Ytajlllpjgeoliaa
