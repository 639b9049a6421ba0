/- Item: its data, how it reads, its copy, size and equality; slices of it. Printed by wip/gen.py. -/
import Derived.Test.YtfnfkpmkppkleaaDoorNames
import Derived.Test.YtfnfkpmkppkleaaDoorSl
import Derived.StillTailTactics
namespace Go.Proofs.YtfnfkpmkppkleaaDoor
open Go.RowKit
set_option maxRecDepth 100000

structure ItemD where
  fKey : ByteArray
  fText : ByteArray
def encItem (d : ItemD) : List Value := [.string d.fKey, .string d.fText]
def okItem (d : ItemD) : Prop := d.fKey.size ≤ maxLen ∧ d.fText.size ≤ maxLen
theorem lenItem (d : ItemD) : (encItem d).length = 2 := rfl

theorem cells_Item : Tryd.prog.cellsOf 125 = 2 := by kernel_rfl
theorem rds_Item {w : World} {cs : List Value} (h : Rds Tryd.prog w 125 cs) : ∃ d : ItemD, cs = encItem d ∧ okItem d := by
  obtain ⟨hl, hf⟩ := Rds.st Tryd.underlying125 h
  rw [cells_Item] at hl
  have e : ∃ c0 c1, cs = [c0, c1] := by
    match cs, hl with
    | [c0, c1], _ => exact ⟨c0, c1, rfl⟩
  obtain ⟨c0, c1, rfl⟩ := e
  simp only [List.mem_cons, List.not_mem_nil, or_false, forall_eq_or_imp, forall_eq, cells_string] at hf
  obtain ⟨h0, h1⟩ := hf
  obtain ⟨x0, e0, w0⟩ := Rds.str Tryd.underlying9 h0
  obtain ⟨x1, e1, w1⟩ := Rds.str Tryd.underlying9 h1
  simp at e0 e1
  subst e0
  subst e1
  exact ⟨⟨x0, x1⟩, rfl, w0, w1⟩
theorem open_Item {H : Type} {enc : TypeId × Value → H} {W : World} {base : Nat} {v : Value} {d : DataW H} {p : List MemPlace} (hv : Value.okWide Tryd.prog W .any base 125 v) (h : DataW.Trod enc Tryd.prog W 0 (fun _ => true) true 125 v d p) :
    ∃ d : ItemD, v = .agg #[.string d.fKey, .string d.fText] ∧ okItem d := by
  obtain ⟨⟨l⟩, rfl, hsz⟩ := WideShapes.okWide_struct Tryd.underlying125 hv
  obtain ⟨d, e, hd⟩ := rds_Item (rds_arg h)
  exact ⟨d, congrArg (fun l => Value.agg ⟨l⟩) e, hd⟩
theorem open_ItemS {H : Type} {enc : TypeId × Value → H} {W : World} {base : Nat} {v : Value} {d : DataW H} {p : List MemPlace} (hv : Value.okWide Tryd.prog W .any base 64 v) (h : DataW.Trod enc Tryd.prog W 0 (fun _ => true) true 64 v d p) :
    ∃ xs : List ItemD, SlA W 0 2 encItem v xs ∧ ∀ x ∈ xs, okItem x := by
  obtain ⟨a, len, cap, rfl⟩ := WideShapes.okWide_slice Tryd.underlying64 hv
  exact SlA.of_rds Tryd.underlying64 cells_Item (by omega) (fun es h => rds_Item h) (rds_arg h)
theorem c_toItem (x0 : ByteArray) (x1 : ByteArray) (w : World) :
    Calls Tryd.prog 93 #[.agg #[.string x0, .string x1]] w fun e w' => e = .returned (.agg #[.string x0, .string x1]) ∧ Below w.heap.size w w' := by
  go_enter Tryd.func93, Tryd.ntmps93
  go_wp2
  exact bodyPost_ret (v := .agg #[.string x0, .string x1]) (by simp [results, Tryd.results93, go_sem]) rfl ⟨rfl, by (repeat' (first | (with_reducible exact Below.refl _ _) | (with_reducible refine Below.alloc ?_ ?_ _) | (with_reducible refine Below.drew ?_) | (with_reducible refine below_drewN ?_ _) | (with_reducible refine Below.setCell ?_ ?_ _) | (with_reducible refine below_via ‹_› ?_ ?_) | (with_reducible refine below_grow ?_ ?_ _ _) | omega | (simp; done) | (simp; omega)))⟩
def sizeItem (d : ItemD) : Int := (d.fKey.size : Int) + (d.fText.size : Int)
theorem sizeItem_nn (d : ItemD) : 0 ≤ sizeItem d := by unfold sizeItem; omega
theorem c_szItem (x0 : ByteArray) (x1 : ByteArray) (n : Int) (w : World) (hx0 : x0.size ≤ maxLen) (hx1 : x1.size ≤ maxLen) (h0 : -1 ≤ n) (h1 : n ≤ 1048576) :
    Calls Tryd.prog 90 #[.agg #[.string x0, .string x1], .int .i64 n] w fun e w' => e = .returned (.int .i64 (szV n ((x0.size : Int) + (x1.size : Int)))) ∧ Below w.heap.size w w' := by
  unfold maxLen at hx0 hx1
  go_enter Tryd.func90, Tryd.ntmps90
  go_wp2
  all_goals (go_ret; go_light; refine ⟨ret_int (by unfold szV; split <;> omega), by (repeat' (first | (with_reducible exact Below.refl _ _) | (with_reducible refine Below.alloc ?_ ?_ _) | (with_reducible refine Below.drew ?_) | (with_reducible refine below_drewN ?_ _) | (with_reducible refine Below.setCell ?_ ?_ _) | (with_reducible refine below_via ‹_› ?_ ?_) | (with_reducible refine below_grow ?_ ?_ _ _) | omega | (simp; done) | (simp; omega)))⟩)
theorem c_eqItem (x0 : ByteArray) (x1 : ByteArray) (w : World) :
    Calls Tryd.prog 96 #[.agg #[.string x0, .string x1], .agg #[.string x0, .string x1]] w fun e w' => e = .returned (.bool true) ∧ Below w.heap.size w w' := by
  go_enter Tryd.func96, Tryd.ntmps96
  go_wp2
  go_ret
  exact ⟨rfl, by (repeat' (first | (with_reducible exact Below.refl _ _) | (with_reducible refine Below.alloc ?_ ?_ _) | (with_reducible refine Below.drew ?_) | (with_reducible refine below_drewN ?_ _) | (with_reducible refine Below.setCell ?_ ?_ _) | (with_reducible refine below_via ‹_› ?_ ?_) | (with_reducible refine below_grow ?_ ?_ _ _) | omega | (simp; done) | (simp; omega)))⟩
def totItem : List ItemD → Int
  | [] => 0
  | d :: l => sizeItem d + totItem l
theorem totItem_nn : ∀ l : List ItemD, 0 ≤ totItem l
  | [] => by simp [totItem]
  | d :: l => by have := totItem_nn l; have := sizeItem_nn d; simp only [totItem]; omega
set_option maxHeartbeats 400000 in
theorem c_szItemS (v : Value) (xs : List ItemD) (n : Int) (w : World) (h : SlA w 0 2 encItem v xs) (hok : ∀ x ∈ xs, okItem x) (h0 : -1 ≤ n) (h1 : n ≤ 1048576) :
    Calls Tryd.prog 37 #[v, .int .i64 n] w fun e w' => e = .returned (.int .i64 (szV n (xs.length + totItem xs))) ∧ Below w.heap.size w w' := by
  rcases h with ⟨a, cap, rfl, rfl, hcap⟩ | ⟨b, off, cap, rfl, hp, hc, hm, _, hb, hx⟩
  · by_cases hn : n < 0
    · go_enter Tryd.func37, Tryd.ntmps37
      go_wp2
      go_ret
      exact ⟨ret_int (by unfold szV; simp [totItem]; omega), by (repeat' (first | (with_reducible exact Below.refl _ _) | (with_reducible refine Below.alloc ?_ ?_ _) | (with_reducible refine Below.drew ?_) | (with_reducible refine below_drewN ?_ _) | (with_reducible refine Below.setCell ?_ ?_ _) | (with_reducible refine below_via ‹_› ?_ ?_) | (with_reducible refine below_grow ?_ ?_ _ _) | omega | (simp; done) | (simp; omega)))⟩
    · go_enter Tryd.func37, Tryd.ntmps37
      go_wp2
      refine wp_loop_rounds 1 ?_
      rw [rounds_succ]
      go_wp2
      go_ret
      exact ⟨ret_int (by unfold szV; simp [totItem]; omega), by (repeat' (first | (with_reducible exact Below.refl _ _) | (with_reducible refine Below.alloc ?_ ?_ _) | (with_reducible refine Below.drew ?_) | (with_reducible refine below_drewN ?_ _) | (with_reducible refine Below.setCell ?_ ?_ _) | (with_reducible refine below_via ‹_› ?_ ?_) | (with_reducible refine below_grow ?_ ?_ _ _) | omega | (simp; done) | (simp; omega)))⟩
  · unfold maxLen at hm
    have hT := totItem_nn xs
    by_cases hn : n - xs.length < 0
    · go_enter Tryd.func37, Tryd.ntmps37
      go_wp2
      go_ret
      exact ⟨ret_int (by unfold szV; split <;> omega), by (repeat' (first | (with_reducible exact Below.refl _ _) | (with_reducible refine Below.alloc ?_ ?_ _) | (with_reducible refine Below.drew ?_) | (with_reducible refine below_drewN ?_ _) | (with_reducible refine Below.setCell ?_ ?_ _) | (with_reducible refine below_via ‹_› ?_ ?_) | (with_reducible refine below_grow ?_ ?_ _ _) | omega | (simp; done) | (simp; omega)))⟩
    · go_enter Tryd.func37, Tryd.ntmps37
      go_wp2
      go_loopw [1, 5] (fun t i wr => ∃ (k : Nat) (m : Int), k ≤ xs.length ∧ i = .int .i64 k ∧ t = .int .i64 m ∧ 0 ≤ m ∧ m ≤ n ∧ m + totItem xs = n - xs.length + totItem (xs.drop k) ∧ Below w.heap.size w wr) (fun _ i _ => xs.length - (intOf i).toNat)
      case atStart => exact ⟨0, _, Nat.zero_le _, rfl, rfl, by omega, by omega, by simp, by (repeat' (first | (with_reducible exact Below.refl _ _) | (with_reducible refine Below.alloc ?_ ?_ _) | (with_reducible refine Below.drew ?_) | (with_reducible refine below_drewN ?_ _) | (with_reducible refine Below.setCell ?_ ?_ _) | (with_reducible refine below_via ‹_› ?_ ?_) | (with_reducible refine below_grow ?_ ?_ _ _) | omega | (simp; done) | (simp; omega)))⟩
      case round =>
        obtain ⟨k, m, hk, rfl, rfl, hm0, hmn, hmt, hB⟩ := hrel
        obtain ⟨hc0, hf0⟩ := bcell hB
        have hz := hB.size
        by_cases hlt : k < xs.length
        · have hmt' := hmt
          rw [drop_cons xs k hlt, totItem] at hmt'
          have hnn := sizeItem_nn xs[k]
          have hnd := totItem_nn (xs.drop (k + 1))
          have HO := hid (hok xs[k] (List.getElem_mem hlt))
          have HT := hid hmt'
          have HN := hid (And.intro hnn hnd)
          have HT0 := hid hT
          have hm1 : m ≤ 1048576 := by omega
          have g0 := (hc0 b _ hb).trans (hx k hlt 0 (by omega))
          have g1 := (hc0 b _ hb).trans (hx k hlt 1 (by omega))
          simp only [encItem, List.getD_cons_zero, List.getD_cons_succ, Nat.add_zero] at g0 g1
          clear hc0 hf0 hx hmt hmt' hnn hnd hT
          go_wp2_with (go_at_call 90; refine (c_szItem xs[k].fKey xs[k].fText m _ (HO.out.1) (HO.out.2) (by omega) hm1).mono ?_; rintro e w1 ⟨rfl, hb⟩; obtain ⟨hc, hf⟩ := bcell hb; have hz := hb.size; (try simp at hz); (try have hz0 : ∀ b, b < w.heap.size → b < w1.heap.size := fun b h => by omega); (try have hz1 : w.heap.size < w1.heap.size := by omega); (try have hz2 : w.heap.size + 1 < w1.heap.size := by omega); (try have hz3 : w.heap.size + 2 < w1.heap.size := by omega))
          · go_ret
            go_light
            have hneg : szV m (sizeItem xs[k]) < 0 := by assumption
            exact ⟨ret_int (szV_eq_neg (by have := HN.out; have := HT.out; have := HT0.out; have := szV_neg hneg; omega)), by (repeat' (first | (with_reducible exact Below.refl _ _) | (with_reducible refine Below.alloc ?_ ?_ _) | (with_reducible refine Below.drew ?_) | (with_reducible refine below_drewN ?_ _) | (with_reducible refine Below.setCell ?_ ?_ _) | (with_reducible refine below_via ‹_› ?_ ?_) | (with_reducible refine below_grow ?_ ?_ _ _) | omega | (simp; done) | (simp; omega)))⟩
          · have hpos : 0 ≤ szV m (sizeItem xs[k]) := by assumption
            go_roundw
            case rel =>
              have e1 := szV_pos (n := m) (m := sizeItem xs[k]) (by omega)
              exact ⟨k + 1, szV m (sizeItem xs[k]), by omega, by go_num, rfl, by omega, by have := HN.out; omega, by have := HT.out; omega, by (repeat' (first | (with_reducible exact Below.refl _ _) | (with_reducible refine Below.alloc ?_ ?_ _) | (with_reducible refine Below.drew ?_) | (with_reducible refine below_drewN ?_ _) | (with_reducible refine Below.setCell ?_ ?_ _) | (with_reducible refine below_via ‹_› ?_ ?_) | (with_reducible refine below_grow ?_ ?_ _ _) | omega | (simp; done) | (simp; omega)))⟩
            case measure => simp [intOf]; omega
        · have e : k = xs.length := by omega
          have hE : m = szV n (xs.length + totItem xs) := by
            rw [e, List.drop_length, totItem] at hmt
            unfold szV; split <;> omega
          have HE := hid hE
          clear hE hmt e
          go_wp2
          go_ret
          exact ⟨ret_int HE.out, by (repeat' (first | (with_reducible exact Below.refl _ _) | (with_reducible refine Below.alloc ?_ ?_ _) | (with_reducible refine Below.drew ?_) | (with_reducible refine below_drewN ?_ _) | (with_reducible refine Below.setCell ?_ ?_ _) | (with_reducible refine below_via ‹_› ?_ ?_) | (with_reducible refine below_grow ?_ ?_ _ _) | omega | (simp; done) | (simp; omega)))⟩
theorem info_Item : (Tryd.prog.info? 128).map (fun i => (i.zero, i.size, i.bytes)) = some (some (.agg #[.string ⟨#[]⟩, .string ⟨#[]⟩]), 2, 32) := by kernel_rfl
set_option maxHeartbeats 400000 in
theorem c_toItemS (v : Value) (xs : List ItemD) (w : World) (h : SlA w 0 2 encItem v xs) (hl : xs.length ≤ 1048576) :
    Calls Tryd.prog 39 #[v] w fun e w' => ∃ g, e = .returned (.slice (some ⟨g, 0, none⟩) xs.length xs.length) ∧ Below w.heap.size w w' ∧ SlO w' w.heap.size 2 encItem (.slice (some ⟨g, 0, none⟩) xs.length xs.length) xs := by
  obtain ⟨i0, hi, hz0, hz1, hz2⟩ := info_parts info_Item
  rcases h with ⟨a, cap, rfl, rfl, hcap⟩ | ⟨b, off, cap, rfl, hp, hc, hm, _, hb, hx⟩
  · go_enter Tryd.func39, Tryd.ntmps39
    go_wp2_with (at_make; refine wpList_make_full _ rfl _ _ 68 rfl w.heap.size 128 i0 _ 2 Tryd.underlying68 hi hz0 hz1 _ _ _ _ 0 rfl rfl rfl rfl (by rw [hz2]; omega) (by unfold maxLen; omega) (Nat.le_refl _) ?_)
    intro w1 hown hgr
    have hB0 : Below w.heap.size w w1 := (Below.refl _ _).grown hgr (Nat.le_refl _) (fun k hk => by cases hk)
    have hP0 := PartC.made (cs := ([] : List ItemD).flatMap encItem) hown rfl
    clear hown hgr
    go_wp2
    refine wp_loop_rounds 1 ?_
    rw [rounds_succ]
    go_wp2
    go_ret
    exact ⟨_, rfl, hB0, hP0.own (xs := []) (n := 2) (fun _ => rfl) (Nat.le_refl _) (Nat.le_refl _) (Nat.zero_le _)⟩
  · unfold maxLen at hm
    go_enter Tryd.func39, Tryd.ntmps39
    go_wp2_with (at_make; refine wpList_make_full _ rfl _ _ 68 rfl w.heap.size 128 i0 _ 2 Tryd.underlying68 hi hz0 hz1 _ _ _ _ xs.length rfl rfl rfl rfl (by rw [hz2]; omega) (by unfold maxLen; omega) (Nat.le_refl _) ?_)
    intro w1 hown hgr
    have hP0 := PartC.made (cs := xs.flatMap encItem) hown (flat_len encItem (fun _ => rfl) xs)
    have hB0 : Below w.heap.size w w1 := (Below.refl _ _).grown hgr (Nat.le_refl _) (fun k hk => by cases hk)
    have hfl := hid (flat_len (n := 2) encItem (fun _ => rfl) xs)
    clear hown hgr
    go_wp2
    go_loopw [4] (fun i wr => ∃ k : Nat, k ≤ xs.length ∧ i = .int .i64 k ∧ Below w.heap.size w wr ∧ PartC wr w.heap.size (xs.flatMap encItem) (k * 2)) (fun i _ => xs.length - (intOf i).toNat)
    case atStart => exact ⟨0, Nat.zero_le _, rfl, hB0, by simpa using hP0⟩
    case round =>
      clear hP0 hB0
      obtain ⟨k, hk, rfl, hB, hP⟩ := hrel
      by_cases hlt : k < xs.length
      · have hzr := hP.1
        obtain ⟨hc0, hf0⟩ := bcell hB
        have g0 := hx k hlt 0 (by omega)
        have g1 := hx k hlt 1 (by omega)
        obtain ⟨u0, hu0⟩ := hP.2.2.2.1 (k*2) (by rw [hfl.out]; omega)
        obtain ⟨u1, hu1⟩ := hP.2.2.2.1 (k*2+1) (by rw [hfl.out]; omega)
        have hfz := hP.2.2.1
        simp only [encItem, List.getD_cons_zero, List.getD_cons_succ, Nat.add_zero] at g0 g1
        go_wp2_with (first | (go_at_call 93; refine (c_toItem _ _ _).mono ?_; rintro e w1 ⟨rfl, hb⟩; obtain ⟨hc, hf⟩ := bcell hb; have hz := hb.size; (try simp at hz); (try have hz0 : ∀ b, b < w.heap.size → b < w1.heap.size := fun b h => by omega); (try have hz1 : w.heap.size < w1.heap.size := by omega); (try have hz2 : w.heap.size + 1 < w1.heap.size := by omega); (try have hz3 : w.heap.size + 2 < w1.heap.size := by omega)))
        go_roundw
        case rel =>
          have F := fun j hj => (flat_get (n := 2) encItem (fun _ => rfl) xs k hlt j hj).symm
          refine ⟨k + 1, by omega, by go_num, by (repeat' (first | (with_reducible exact Below.refl _ _) | (with_reducible refine Below.alloc ?_ ?_ _) | (with_reducible refine Below.drew ?_) | (with_reducible refine below_drewN ?_ _) | (with_reducible refine Below.setCell ?_ ?_ _) | (with_reducible refine below_via ‹_› ?_ ?_) | (with_reducible refine below_grow ?_ ?_ _ _) | omega | (simp; done) | (simp; omega))), ?_⟩
          exact (((hP.below hb (Nat.le_refl _)).set (by rw [hfl.out]; omega) (F 0 (by omega)) rfl).set (by rw [hfl.out]; omega) (F 1 (by omega)) (by omega))
        case measure => simp [intOf]; omega
      · have e : k = xs.length := by omega
        subst e
        go_wp2
        go_ret
        exact ⟨_, rfl, hB, hP.own (xs := xs) (n := 2) (fun _ => rfl) (Nat.le_refl _) (Nat.le_refl _) (by unfold maxLen; omega)⟩
set_option maxHeartbeats 400000 in
theorem c_eqItemS (v v' : Value) (lo lo' : Nat) (xs : List ItemD) (w : World) (h : SlA w lo 2 encItem v xs) (h' : SlA w lo' 2 encItem v' xs) :
    Calls Tryd.prog 41 #[v, v'] w fun e w' => e = .returned (.bool true) ∧ Below w.heap.size w w' := by
  rcases h with ⟨a, cap, rfl, rfl, hcap⟩ | ⟨b, off, cap, rfl, hp, hc, hm, _, hb, hx⟩
  · rcases h' with ⟨a', cap', rfl, _, hcap'⟩ | ⟨b', off', cap', rfl, hp', hc', hm', _, hb', hx'⟩
    · go_enter Tryd.func41, Tryd.ntmps41
      go_wp2
      refine wp_loop_rounds 1 ?_
      rw [rounds_succ]
      go_wp2
      go_ret
      exact ⟨rfl, by (repeat' (first | (with_reducible exact Below.refl _ _) | (with_reducible refine Below.alloc ?_ ?_ _) | (with_reducible refine Below.drew ?_) | (with_reducible refine below_drewN ?_ _) | (with_reducible refine Below.setCell ?_ ?_ _) | (with_reducible refine below_via ‹_› ?_ ?_) | (with_reducible refine below_grow ?_ ?_ _ _) | omega | (simp; done) | (simp; omega)))⟩
    · simp at hp'
  · rcases h' with ⟨a', cap', rfl, e', hcap'⟩ | ⟨b', off', cap', rfl, hp', hc', hm', _, hb', hx'⟩
    · subst e'; simp at hp
    · unfold maxLen at hm hm'
      go_enter Tryd.func41, Tryd.ntmps41
      go_wp2
      go_loopw [5] (fun i wr => ∃ k : Nat, k ≤ xs.length ∧ i = .int .i64 k ∧ Below w.heap.size w wr) (fun i _ => xs.length - (intOf i).toNat)
      case atStart => exact ⟨0, Nat.zero_le _, rfl, by (repeat' (first | (with_reducible exact Below.refl _ _) | (with_reducible refine Below.alloc ?_ ?_ _) | (with_reducible refine Below.drew ?_) | (with_reducible refine below_drewN ?_ _) | (with_reducible refine Below.setCell ?_ ?_ _) | (with_reducible refine below_via ‹_› ?_ ?_) | (with_reducible refine below_grow ?_ ?_ _ _) | omega | (simp; done) | (simp; omega)))⟩
      case round =>
        obtain ⟨k, hk, rfl, hB⟩ := hrel
        obtain ⟨hc0, hf0⟩ := bcell hB
        have hz := hB.size
        by_cases hlt : k < xs.length
        · have hlI : (k : Int) < xs.length := by omega
          have g0 := (hc0 b _ hb).trans (hx k hlt 0 (by omega))
          have g1 := (hc0 b _ hb).trans (hx k hlt 1 (by omega))
          have k0 := (hc0 b' _ hb').trans (hx' k hlt 0 (by omega))
          have k1 := (hc0 b' _ hb').trans (hx' k hlt 1 (by omega))
          simp only [encItem, List.getD_cons_zero, List.getD_cons_succ, Nat.add_zero] at g0 k0 g1 k1
          clear hc0 hf0 hx hx'
          go_wp2
          go_still_tail 8, (by kernel_rfl)
          change wpList _ _ _ _ _ wr.drew
          generalize hwd : wr.drew = wd
          have hBd : Below w.heap.size w wd := hwd ▸ hB.drew
          have hzd := hBd.size
          clear hwd
          go_wp2_with (first | (go_at_call 96; refine (c_eqItem _ _ _).mono ?_; rintro e w1 ⟨rfl, hb⟩; obtain ⟨hc, hf⟩ := bcell hb; have hz := hb.size; (try simp at hz); (try have hz0 : ∀ b, b < w.heap.size → b < w1.heap.size := fun b h => by omega); (try have hz1 : w.heap.size < w1.heap.size := by omega); (try have hz2 : w.heap.size + 1 < w1.heap.size := by omega); (try have hz3 : w.heap.size + 2 < w1.heap.size := by omega)))
          go_roundw
          case rel => exact ⟨k + 1, by omega, by go_num, by (repeat' (first | (with_reducible exact Below.refl _ _) | (with_reducible refine Below.alloc ?_ ?_ _) | (with_reducible refine Below.drew ?_) | (with_reducible refine below_drewN ?_ _) | (with_reducible refine Below.setCell ?_ ?_ _) | (with_reducible refine below_via ‹_› ?_ ?_) | (with_reducible refine below_grow ?_ ?_ _ _) | omega | (simp; done) | (simp; omega)))⟩
          case measure => simp [intOf]; omega
        · go_wp2
          go_ret
          exact ⟨rfl, by (repeat' (first | (with_reducible exact Below.refl _ _) | (with_reducible refine Below.alloc ?_ ?_ _) | (with_reducible refine Below.drew ?_) | (with_reducible refine below_drewN ?_ _) | (with_reducible refine Below.setCell ?_ ?_ _) | (with_reducible refine below_via ‹_› ?_ ?_) | (with_reducible refine below_grow ?_ ?_ _ _) | omega | (simp; done) | (simp; omega)))⟩
end Go.Proofs.YtfnfkpmkppkleaaDoor
