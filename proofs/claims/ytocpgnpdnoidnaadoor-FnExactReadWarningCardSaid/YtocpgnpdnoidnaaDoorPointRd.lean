/- A point read, both sides. -/
import Derived.Test.YtocpgnpdnoidnaaDoorShipRd
import Derived.Deep.RegionHeld3
namespace Go.Proofs.YtocpgnpdnoidnaaDoor
open Go.RowKit Go.Sort
set_option linter.unusedVariables false
set_option maxRecDepth 100000

def px (l : List UInt8) : List UInt8 := (Lib.cut l [44]).1
def py (l : List UInt8) : List UInt8 := (Lib.cut l [44]).2.1
def ptB (l : List UInt8) : Bool := numB (px l) && numB (py l) && pointB (numV (px l)) (numV (py l))
def ptX (l : List UInt8) : Int := if ptB l then numV (px l) else 0
def ptY (l : List UInt8) : Int := if ptB l then numV (py l) else 0
theorem cut_hit {l a b : List UInt8} (h : l = a ++ 44 :: b) (ha : (44 : UInt8) ∉ a) : px l = a ∧ py l = b := by
  rcases index_one 44 l with ⟨h1, h2⟩ | ⟨i, h1, h2, h3, h4⟩
  · exact absurd (by rw [h]; simp) h2
  · have e1 : px l = l.take i ∧ py l = l.drop (i + 1) := by
      unfold px py Lib.cut
      rw [h1, if_pos (by omega)]
      simp
    have c1 := cutAt_app 44 b a ha
    rw [← h] at c1
    have c2 := cutAt_app 44 (l.drop (i + 1)) (l.take i) h3
    rw [← h4] at c2
    rw [c1] at c2
    injection c2 with e2 e3
    refine ⟨e1.1.trans e2.symm, ?_⟩
    rw [e1.2]
    have h5 := h4.symm.trans h
    rw [← e2] at h5
    have h6 := List.append_cancel_left h5
    injection h6
theorem cut_miss {l : List UInt8} (h : (44 : UInt8) ∉ l) : py l = [] := by
  rcases index_one 44 l with ⟨h1, h2⟩ | ⟨i, h1, h2, h3, h4⟩
  · unfold py Lib.cut
    rw [h1, if_neg (by omega)]
  · exact absurd (by rw [h4]; simp) h
theorem numB_nil : numB [] = false := by
  cases h : numB [] with
  | false => rfl
  | true => exact absurd ((numL_iff _ _).1 (num_of_true h)).1 (itoa_ne _)
theorem numB_itoa {l : List UInt8} (h : numB l = true) : l = Lib.itoa (numV l) := ((numL_iff _ _).1 (num_of_true h)).1.symm
theorem numB_44 {l : List UInt8} (h : (44 : UInt8) ∈ l) : numB l = false := by
  cases hq : numB l with
  | false => rfl
  | true => rw [numB_itoa hq] at h; exact absurd h (itoa_no44 _)
theorem pt_app {l : List UInt8} (h : numB (py l) = true) : l = px l ++ 44 :: py l := by
  by_cases h1 : (44 : UInt8) ∈ l
  · rcases index_one 44 l with ⟨h2, h3⟩ | ⟨i, h2, _, h3, h4⟩
    · exact absurd h1 h3
    · have := cut_hit h4 h3
      rw [this.1, this.2]; exact h4
  · rw [cut_miss h1, numB_nil] at h; cases h
theorem pt_two {l : List UInt8} {a b : ByteArray} (h : cutB 44 l = [a, b]) : px l = a.data.toList ∧ py l = b.data.toList := by
  have hc : cutAt 44 l = [a.data.toList, b.data.toList] := by
    have := congrArg (List.map fun x : ByteArray => x.data.toList) h
    rw [cutB, List.map_map] at this
    rw [← List.map_id (cutAt 44 l)]
    refine Eq.trans (List.map_congr_left fun p _ => ?_) this
    exact (bs_list p).symm
  refine cut_hit ?_ (cutAt_no 44 l _ (by rw [hc]; simp))
  have := jn_cutAt 44 l
  rw [hc, jn_cons] at this
  rw [← this]; simp [jn]
theorem pt_not {l : List UInt8} (h : (cutB 44 l).length ≠ 2) : ptB l = false := by
  rw [cutB, List.length_map] at h
  have : numB (py l) = false := by
    cases hq : numB (py l) with
    | false => rfl
    | true =>
      have h1 := pt_app hq
      have h2 : (44 : UInt8) ∉ py l := fun e => by rw [numB_44 e] at hq; cases hq
      have h3 : (44 : UInt8) ∉ px l := by
        rcases index_one 44 l with ⟨h4, h5⟩ | ⟨i, h4, _, h5, h6⟩
        · exact fun e => h5 (by rw [h1]; exact List.mem_append_left _ e)
        · rw [(cut_hit h6 h5).1]; exact h5
      rw [h1, cutAt_app 44 _ _ h3, cutAt_clean 44 _ h2] at h
      exact absurd rfl h
  simp [ptB, this]
theorem point_range {x y : Int} (h : pointB x y = true) : (-1000000000000 ≤ x ∧ x ≤ 1000000000000) ∧ (-1000000000000 ≤ y ∧ y ≤ 1000000000000) := by
  simp only [pointB, Bool.and_eq_true] at h
  have h1 := inB_true h.1
  have h2 := inB_true h.2
  omega
theorem pt_iff (l : List UInt8) (x y : Int) : (ptB l = true ∧ ptX l = x ∧ ptY l = y) ↔ (pointL x y = l ∧ pointB x y = true) := by
  constructor
  · rintro ⟨h1, h2, h3⟩
    rw [ptX, h1, if_pos rfl] at h2
    rw [ptY, h1, if_pos rfl] at h3
    simp only [ptB, Bool.and_eq_true] at h1
    rw [h2, h3] at h1
    refine ⟨?_, h1.2⟩
    have e1 := numB_itoa h1.1.1
    have e2 := numB_itoa h1.1.2
    rw [h2] at e1
    rw [h3] at e2
    rw [pt_app h1.1.2, pointL, ← e1, ← e2]
  · rintro ⟨h1, h2⟩
    have hr := point_range h2
    have hc := cut_hit (l := l) (a := Lib.itoa x) (b := Lib.itoa y) h1.symm (itoa_no44 x)
    have n1 := num_some (num_itoa hr.1)
    have n2 := num_some (num_itoa hr.2)
    have hb : ptB l = true := by rw [ptB, hc.1, hc.2, n1.1, n1.2, n2.1, n2.2, h2]; rfl
    refine ⟨hb, ?_, ?_⟩
    · rw [ptX, hb, if_pos rfl, hc.1, n1.1]
    · rw [ptY, hb, if_pos rfl, hc.2, n2.1]
theorem pt_i64 (l : List UInt8) : I64 (ptX l) ∧ I64 (ptY l) := by
  unfold ptX ptY
  have h0 : I64 0 := by unfold I64; omega
  split
  · exact ⟨numV_i64 _, numV_i64 _⟩
  · exact ⟨h0, h0⟩
def PtPost (l : List UInt8) (w : World) (e : Ending) (w' : World) : Prop :=
  e = .returned (.tuple #[.agg #[.int .i64 (ptX l), .int .i64 (ptY l)], .bool (ptB l)]) ∧ Below w.heap.size w w'
theorem ptPost_no {l : List UInt8} {w w' : World} (h : Below w.heap.size w w') (hn : ptB l = false) : PtPost l w (.returned (.tuple #[.agg #[.int .i64 0, .int .i64 0], .bool false])) w' := by
  refine ⟨?_, h⟩
  rw [ptX, ptY, hn]; rfl
theorem ptPost_ok {l : List UInt8} {w w' : World} (h : Below w.heap.size w w') {x y : Int} (h1 : numB (px l) = true) (h2 : numB (py l) = true) (hx : numV (px l) = x) (hy : numV (py l) = y) (h3 : pointB x y = true) : PtPost l w (.returned (.tuple #[.agg #[.int .i64 x, .int .i64 y], .bool true])) w' := by
  have hb : ptB l = true := by rw [ptB, h1, h2, hx, hy, h3]; rfl
  refine ⟨?_, h⟩
  rw [ptX, ptY, hb, if_pos rfl, if_pos rfl, hx, hy]
theorem cut_sizes (s : ByteArray) : (px s.data.toList).length ≤ s.size ∧ (py s.data.toList).length ≤ s.size := by
  have h0 : s.data.toList.length = s.size := Array.length_toList
  unfold px py Lib.cut
  split
  · simp only [List.length_take, List.length_drop]; omega
  · simp only [List.length_nil]; omega
set_option maxHeartbeats 4000000 in
theorem c_l02Read (s : ByteArray) (w : World) (hs : (s.size : Int) ≤ 1048576) :
    Calls Tryd.prog 84 #[.string s] w (PtPost s.data.toList w) := by
  have csp := fun w' => c_l01Split 44 s w' hs
  have hcs := cutB_size 44 s
  go_enter Tryd.func84, Tryd.ntmps84
  go_wp2_with fail
  refine (csp _).mono ?_
  rintro e w1 ⟨v, rfl, hb1, hS1⟩
  obtain ⟨hc1, hf1⟩ := bcell hb1; have hz1 := hb1.size; (try simp at hz1); (try have hy : w.heap.size < w1.heap.size := by omega); (try have hy : w.heap.size ≤ w1.heap.size := by omega); (try have hy : w.heap.size + 1 < w1.heap.size := by omega); (try have hy : w.heap.size + 1 ≤ w1.heap.size := by omega); (try have hy : w.heap.size + 2 < w1.heap.size := by omega); (try have hy : w.heap.size + 2 ≤ w1.heap.size := by omega)
  obtain ⟨xs, hxs⟩ : ∃ xs, xs = cutB 44 s.data.toList := ⟨_, rfl⟩
  rw [← hxs] at hS1 hcs
  obtain ⟨ad, cap, rfl⟩ := hS1.1.form
  have hbk : Bk w1 w.heap.size 28 [.int .i64 0, .int .i64 0] := (Bk.new _ _ _).below hb1
  have b0 := hbk.cell 0 rfl
  have b1 := hbk.cell 1 rfl
  have fx := hbk.fr
  have hwx : w.heap.size < w1.heap.size := by omega
  have hB1 : Below w.heap.size w w1 := by (repeat' (first | (with_reducible exact Below.refl _ _) | (with_reducible refine Below.alloc ?_ ?_ _) | (with_reducible refine Below.drew ?_) | (with_reducible refine below_drewN ?_ _) | (with_reducible refine Below.setCell ?_ ?_ _) | (with_reducible refine below_via ‹_› ?_ ?_) | (with_reducible refine below_grow ?_ ?_ _ _) | omega | (simp; done) | (simp; omega)))
  have hbk0 := hid hbk
  clear hc1 hf1 hbk
  by_cases h2 : xs.length = 2
  · obtain ⟨a, b, rfl⟩ := two_of h2
    obtain ⟨p1, p2⟩ := pt_two hxs.symm
    have hsa : (a.size : Int) ≤ 1048576 := by have := hcs a (by simp); omega
    have hsb : (b.size : Int) ≤ 1048576 := by have := hcs b (by simp); omega
    obtain ⟨bb, off, rfl, hlo, hbb, hcl⟩ := cell_str hS1.1 rfl (k := 0) (by simp)
    have hbne : bb ≠ w.heap.size := by simp at hlo; omega
    have c0 := hcl 0 (by simp)
    have c1 := hcl 1 (by simp)
    simp only [List.getElem_cons_zero, List.getElem_cons_succ, Nat.add_zero] at c0 c1
    have hz : (((2 : Nat) : Int) != 2) = false := rfl
    have hbn2 : bb ≠ w1.heap.size := by omega
    have hn1 : w.heap.size ≠ w1.heap.size := by omega
    have hn2 : w1.heap.size ≠ w.heap.size := by omega
    obtain ⟨x, hx⟩ : ∃ x, x = numV a.data.toList := ⟨_, rfl⟩
    obtain ⟨y, hy⟩ : ∃ y, y = numV b.data.toList := ⟨_, rfl⟩
    obtain ⟨o, ho⟩ : ∃ o, o = numB a.data.toList := ⟨_, rfl⟩
    obtain ⟨q, hq⟩ : ∃ q, q = numB b.data.toList := ⟨_, rfl⟩
    have ca : ∀ w', Calls Tryd.prog 83 #[.string a] w' fun e w'' => e = .returned (.tuple #[.int .i64 x, .bool o]) ∧ w' = w'' := fun w' => by rw [hx, ho]; exact c_l01Number a w' hsa
    have cb : ∀ w', Calls Tryd.prog 83 #[.string b] w' fun e w'' => e = .returned (.tuple #[.int .i64 y, .bool q]) ∧ w' = w'' := fun w' => by rw [hy, hq]; exact c_l01Number b w' hsb
    have HP := hid (show numB (px s.data.toList) = o ∧ numB (py s.data.toList) = q ∧ numV (px s.data.toList) = x ∧ numV (py s.data.toList) = y by rw [p1, p2]; exact ⟨ho.symm, hq.symm, hx.symm, hy.symm⟩)
    clear hS1 hcs h2 hxs p1 p2 hx hy ho hq hcl
    go_wp2_with fail
    refine (ca _).mono ?_
    rintro e w' ⟨rfl, rfl⟩
    go_wp2_with fail
    refine (cb _).mono ?_
    rintro e w' ⟨rfl, rfl⟩
    cases o
    · have HR := hid (show ptB s.data.toList = false by simp [ptB, HP.out.1])
      go_wp2_with fail
      refine bodyPost_ret (v := .tuple #[.agg #[.int .i64 0, .int .i64 0], .bool false]) (by simp [results, Tryd.results84, go_sem, *]) rfl (ptPost_no (by (repeat' (first | (with_reducible exact Below.refl _ _) | (with_reducible refine Below.alloc ?_ ?_ _) | (with_reducible refine Below.drew ?_) | (with_reducible refine below_drewN ?_ _) | (with_reducible refine Below.setCell ?_ ?_ _) | (with_reducible refine below_via ‹_› ?_ ?_) | (with_reducible refine below_grow ?_ ?_ _ _) | omega | (simp; done) | (simp; omega)))) HR.out)
    · cases q
      · have HR := hid (show ptB s.data.toList = false by simp [ptB, HP.out.2.1])
        go_wp2_with fail
        refine bodyPost_ret (v := .tuple #[.agg #[.int .i64 0, .int .i64 0], .bool false]) (by simp [results, Tryd.results84, go_sem, *]) rfl (ptPost_no (by (repeat' (first | (with_reducible exact Below.refl _ _) | (with_reducible refine Below.alloc ?_ ?_ _) | (with_reducible refine Below.drew ?_) | (with_reducible refine below_drewN ?_ _) | (with_reducible refine Below.setCell ?_ ?_ _) | (with_reducible refine below_via ‹_› ?_ ?_) | (with_reducible refine below_grow ?_ ?_ _ _) | omega | (simp; done) | (simp; omega)))) HR.out)
      · cases hpt : pointB x y
        · have HR := hid (show ptB s.data.toList = false by simp [ptB, HP.out, hpt])
          go_wp2_with (go_at_call 69; refine (c_l02Ok _ _ _).mono ?_; rintro e w2 ⟨rfl, hb2⟩; have hz2 := hb2.size; simp at hz2; have hbk2 : Bk w2 w.heap.size 28 [.int .i64 0, .int .i64 0] := (by have hk := hbk0.out; exact (by (repeat' (first | (with_reducible exact Bk.new _ _ _) | (with_reducible refine Bk.new1 ?_; first | rfl | (simp; done) | omega) | (with_reducible assumption) | (with_reducible refine Bk.alloc ?_ _) | (with_reducible refine Bk.drew ?_) | (with_reducible refine Bk.drewN ?_ _) | (with_reducible refine Bk.other ?_ ?_ _) | (with_reducible apply Bk.drewBy; with_reducible assumption) | (with_reducible apply Bk.viaB; with_reducible assumption) | omega | (simp; done))))); have r0 := hbk2.cell 0 rfl; have r1 := hbk2.cell 1 rfl; have rf := hbk2.fr; clear hbk2)
          refine bodyPost_ret (v := .tuple #[.agg #[.int .i64 0, .int .i64 0], .bool false]) (by simp [results, Tryd.results84, go_sem, *]) rfl (ptPost_no (by (repeat' (first | (with_reducible exact Below.refl _ _) | (with_reducible refine Below.alloc ?_ ?_ _) | (with_reducible refine Below.drew ?_) | (with_reducible refine below_drewN ?_ _) | (with_reducible refine Below.setCell ?_ ?_ _) | (with_reducible refine below_via ‹_› ?_ ?_) | (with_reducible refine below_grow ?_ ?_ _ _) | omega | (simp; done) | (simp; omega)))) HR.out)
        · have HR := hid (And.intro HP.out hpt)
          go_wp2_with (go_at_call 69; refine (c_l02Ok _ _ _).mono ?_; rintro e w2 ⟨rfl, hb2⟩; have hz2 := hb2.size; simp at hz2; have hbk2 : Bk w2 w.heap.size 28 [.int .i64 0, .int .i64 0] := (by have hk := hbk0.out; exact (by (repeat' (first | (with_reducible exact Bk.new _ _ _) | (with_reducible refine Bk.new1 ?_; first | rfl | (simp; done) | omega) | (with_reducible assumption) | (with_reducible refine Bk.alloc ?_ _) | (with_reducible refine Bk.drew ?_) | (with_reducible refine Bk.drewN ?_ _) | (with_reducible refine Bk.other ?_ ?_ _) | (with_reducible apply Bk.drewBy; with_reducible assumption) | (with_reducible apply Bk.viaB; with_reducible assumption) | omega | (simp; done))))); have r0 := hbk2.cell 0 rfl; have r1 := hbk2.cell 1 rfl; have rf := hbk2.fr; have hbn : Bk w2 w1.heap.size 28 [.int .i64 x, .int .i64 y] := (by (repeat' (first | (with_reducible exact Bk.new _ _ _) | (with_reducible refine Bk.new1 ?_; first | rfl | (simp; done) | omega) | (with_reducible assumption) | (with_reducible refine Bk.alloc ?_ _) | (with_reducible refine Bk.drew ?_) | (with_reducible refine Bk.drewN ?_ _) | (with_reducible refine Bk.other ?_ ?_ _) | (with_reducible apply Bk.drewBy; with_reducible assumption) | (with_reducible apply Bk.viaB; with_reducible assumption) | omega | (simp; done)))); have n0 := hbn.cell 0 rfl; have n1 := hbn.cell 1 rfl; clear hbk2 hbn)
          refine bodyPost_ret (v := .tuple #[.agg #[.int .i64 x, .int .i64 y], .bool true]) (by simp [results, Tryd.results84, go_sem, *]) rfl (ptPost_ok (by (repeat' (first | (with_reducible exact Below.refl _ _) | (with_reducible refine Below.alloc ?_ ?_ _) | (with_reducible refine Below.drew ?_) | (with_reducible refine below_drewN ?_ _) | (with_reducible refine Below.setCell ?_ ?_ _) | (with_reducible refine below_via ‹_› ?_ ?_) | (with_reducible refine below_grow ?_ ?_ _ _) | omega | (simp; done) | (simp; omega)))) HR.out.1.1 HR.out.1.2.1 HR.out.1.2.2.1 HR.out.1.2.2.2 HR.out.2)
  · have hz : ((xs.length : Int) != 2) = true := by simp; omega
    have HR := hid (pt_not (by rw [← hxs]; exact h2))
    clear hS1 hcs h2 hxs
    go_wp2_with fail
    refine bodyPost_ret (v := .tuple #[.agg #[.int .i64 0, .int .i64 0], .bool false]) (by simp [results, Tryd.results84, go_sem, *]) rfl (ptPost_no (by (repeat' (first | (with_reducible exact Below.refl _ _) | (with_reducible refine Below.alloc ?_ ?_ _) | (with_reducible refine Below.drew ?_) | (with_reducible refine below_drewN ?_ _) | (with_reducible refine Below.setCell ?_ ?_ _) | (with_reducible refine below_via ‹_› ?_ ?_) | (with_reducible refine below_grow ?_ ?_ _ _) | omega | (simp; done) | (simp; omega)))) HR.out)
set_option maxHeartbeats 4000000 in
theorem c_ReadPoint (s : ByteArray) (w : World) (hs : (s.size : Int) ≤ 1048576) (hrd : Rd w) :
    Calls Tryd.prog 47 #[.string s] w (PtPost s.data.toList w) := by
  obtain ⟨m, hm⟩ := hrd.mx
  have ccut : ∀ w', w'.cell? ⟨0, 0, none⟩ = some (.int .i64 m) → Calls Tryd.prog 88 #[.string s, .string ⟨#[44]⟩] w' fun e w'' => e = .returned (.tuple #[.string (bs (px s.data.toList)), .string (bs (py s.data.toList)), .bool (Lib.cut s.data.toList [44]).2.2]) ∧ ∃ n, w'' = w'.drewN n := fun w' h => Tryd.strings_Cut s ⟨#[44]⟩ m w' (by omega) h
  have hz1 := cut_sizes s
  obtain ⟨a, ha⟩ : ∃ a, a = bs (px s.data.toList) := ⟨_, rfl⟩
  obtain ⟨b, hb⟩ : ∃ b, b = bs (py s.data.toList) := ⟨_, rfl⟩
  have hsa : (a.size : Int) ≤ 1048576 := by rw [ha, bs_size]; omega
  have hsb : (b.size : Int) ≤ 1048576 := by rw [hb, bs_size]; omega
  have p1 : px s.data.toList = a.data.toList := by rw [ha, bs_list]
  have p2 : py s.data.toList = b.data.toList := by rw [hb, bs_list]
  obtain ⟨x, hx⟩ : ∃ x, x = numV a.data.toList := ⟨_, rfl⟩
  obtain ⟨y, hy⟩ : ∃ y, y = numV b.data.toList := ⟨_, rfl⟩
  obtain ⟨o, ho⟩ : ∃ o, o = numB a.data.toList := ⟨_, rfl⟩
  obtain ⟨q, hq⟩ : ∃ q, q = numB b.data.toList := ⟨_, rfl⟩
  obtain ⟨t, ht⟩ : ∃ t, t = (Lib.cut s.data.toList [44]).2.2 := ⟨_, rfl⟩
  rw [← ha, ← hb, ← ht] at ccut
  have ca : ∀ w', Rd w' → Calls Tryd.prog 46 #[.string a] w' fun e w'' => e = .returned (.tuple #[.int .i64 x, .bool o]) ∧ Below w'.heap.size w' w'' := fun w' hr => by rw [hx, ho]; exact c_ReadDecimal a w' hsa hr
  have cb : ∀ w', Rd w' → Calls Tryd.prog 46 #[.string b] w' fun e w'' => e = .returned (.tuple #[.int .i64 y, .bool q]) ∧ Below w'.heap.size w' w'' := fun w' hr => by rw [hy, hq]; exact c_ReadDecimal b w' hsb hr
  have HP := hid (show numB (px s.data.toList) = o ∧ numB (py s.data.toList) = q ∧ numV (px s.data.toList) = x ∧ numV (py s.data.toList) = y by rw [p1, p2]; exact ⟨ho.symm, hq.symm, hx.symm, hy.symm⟩)
  clear hz1 ha hb p1 p2 hx hy ho hq ht
  have hgl := block_lt_of_cell hm
  go_enter Tryd.func47, Tryd.ntmps47
  go_wp2_with fail
  refine (ccut _ (below_cell (show Below w.heap.size w _ by (repeat' (first | (with_reducible exact Below.refl _ _) | (with_reducible refine Below.alloc ?_ ?_ _) | (with_reducible refine Below.drew ?_) | (with_reducible refine below_drewN ?_ _) | (with_reducible refine Below.setCell ?_ ?_ _) | (with_reducible refine below_via ‹_› ?_ ?_) | (with_reducible refine below_grow ?_ ?_ _ _) | omega | (simp; done) | (simp; omega)))) hgl hm)).mono ?_
  rintro e w0 ⟨rfl, n0, hw0⟩
  have hbk0 : Bk w0 w.heap.size 28 [.int .i64 0, .int .i64 0] := by rw [hw0]; exact (Bk.new _ _ _).below (below_drewN (Below.refl _ _) n0)
  have hB0 : Below w.heap.size w w0 := by rw [hw0]; (repeat' (first | (with_reducible exact Below.refl _ _) | (with_reducible refine Below.alloc ?_ ?_ _) | (with_reducible refine Below.drew ?_) | (with_reducible refine below_drewN ?_ _) | (with_reducible refine Below.setCell ?_ ?_ _) | (with_reducible refine below_via ‹_› ?_ ?_) | (with_reducible refine below_grow ?_ ?_ _ _) | omega | (simp; done) | (simp; omega)))
  have hz0 : w.heap.size + 1 = w0.heap.size := by rw [hw0]; simp
  clear hw0
  go_wp2_with fail
  refine (ca _ (hrd.at hB0)).mono ?_
  rintro e w1 ⟨rfl, hb1⟩
  have hB1 : Below w.heap.size w w1 := by have := hb1.size; (repeat' (first | (with_reducible exact Below.refl _ _) | (with_reducible refine Below.alloc ?_ ?_ _) | (with_reducible refine Below.drew ?_) | (with_reducible refine below_drewN ?_ _) | (with_reducible refine Below.setCell ?_ ?_ _) | (with_reducible refine below_via ‹_› ?_ ?_) | (with_reducible refine below_grow ?_ ?_ _ _) | omega | (simp; done) | (simp; omega)))
  have hbk1 := hbk0.below hb1
  go_wp2_with fail
  refine (cb _ (hrd.at hB1)).mono ?_
  rintro e w2 ⟨rfl, hb2⟩
  have hs1 := hb1.size
  have hs2 := hb2.size
  have hB2 : Below w.heap.size w w2 := by (repeat' (first | (with_reducible exact Below.refl _ _) | (with_reducible refine Below.alloc ?_ ?_ _) | (with_reducible refine Below.drew ?_) | (with_reducible refine below_drewN ?_ _) | (with_reducible refine Below.setCell ?_ ?_ _) | (with_reducible refine below_via ‹_› ?_ ?_) | (with_reducible refine below_grow ?_ ?_ _ _) | omega | (simp; done) | (simp; omega)))
  have hbk2 := hbk1.below hb2
  have b0 := hbk2.cell 0 rfl
  have b1 := hbk2.cell 1 rfl
  have fx := hbk2.fr
  have hn1 : w.heap.size ≠ w2.heap.size := by omega
  have hn2 : w2.heap.size ≠ w.heap.size := by omega
  have HBK := hid hbk2
  have hwx : w.heap.size < w2.heap.size := by omega
  clear hbk0 hbk1 hbk2 hb1 hb2 hm hgl hz0 hs1 hs2 hB0 hB1
  cases o
  · have HR := hid (show ptB s.data.toList = false by simp [ptB, HP.out.1])
    go_wp2_with fail
    refine bodyPost_ret (v := .tuple #[.agg #[.int .i64 0, .int .i64 0], .bool false]) (by simp [results, Tryd.results47, go_sem, *]) rfl (ptPost_no (by (repeat' (first | (with_reducible exact Below.refl _ _) | (with_reducible refine Below.alloc ?_ ?_ _) | (with_reducible refine Below.drew ?_) | (with_reducible refine below_drewN ?_ _) | (with_reducible refine Below.setCell ?_ ?_ _) | (with_reducible refine below_via ‹_› ?_ ?_) | (with_reducible refine below_grow ?_ ?_ _ _) | omega | (simp; done) | (simp; omega)))) HR.out)
  · cases q
    · have HR := hid (show ptB s.data.toList = false by simp [ptB, HP.out.2.1])
      go_wp2_with fail
      refine bodyPost_ret (v := .tuple #[.agg #[.int .i64 0, .int .i64 0], .bool false]) (by simp [results, Tryd.results47, go_sem, *]) rfl (ptPost_no (by (repeat' (first | (with_reducible exact Below.refl _ _) | (with_reducible refine Below.alloc ?_ ?_ _) | (with_reducible refine Below.drew ?_) | (with_reducible refine below_drewN ?_ _) | (with_reducible refine Below.setCell ?_ ?_ _) | (with_reducible refine below_via ‹_› ?_ ?_) | (with_reducible refine below_grow ?_ ?_ _ _) | omega | (simp; done) | (simp; omega)))) HR.out)
    · cases hpt : pointB x y
      · have HR := hid (show ptB s.data.toList = false by simp [ptB, HP.out, hpt])
        go_wp2_with (go_at_call 75; refine (c_ValidPoint _ _ _).mono ?_; rintro e w3 ⟨rfl, hb3⟩; have hz3 := hb3.size; simp at hz3; have hbk3 : Bk w3 w.heap.size 28 [.int .i64 0, .int .i64 0] := (by have hk := HBK.out; exact (by (repeat' (first | (with_reducible exact Bk.new _ _ _) | (with_reducible refine Bk.new1 ?_; first | rfl | (simp; done) | omega) | (with_reducible assumption) | (with_reducible refine Bk.alloc ?_ _) | (with_reducible refine Bk.drew ?_) | (with_reducible refine Bk.drewN ?_ _) | (with_reducible refine Bk.other ?_ ?_ _) | (with_reducible apply Bk.drewBy; with_reducible assumption) | (with_reducible apply Bk.viaB; with_reducible assumption) | omega | (simp; done))))); have r0 := hbk3.cell 0 rfl; have r1 := hbk3.cell 1 rfl; have rf := hbk3.fr; clear hbk3)
        refine bodyPost_ret (v := .tuple #[.agg #[.int .i64 0, .int .i64 0], .bool false]) (by simp [results, Tryd.results47, go_sem, *]) rfl (ptPost_no (by (repeat' (first | (with_reducible exact Below.refl _ _) | (with_reducible refine Below.alloc ?_ ?_ _) | (with_reducible refine Below.drew ?_) | (with_reducible refine below_drewN ?_ _) | (with_reducible refine Below.setCell ?_ ?_ _) | (with_reducible refine below_via ‹_› ?_ ?_) | (with_reducible refine below_grow ?_ ?_ _ _) | omega | (simp; done) | (simp; omega)))) HR.out)
      · have HR := hid (And.intro HP.out hpt)
        go_wp2_with (go_at_call 75; refine (c_ValidPoint _ _ _).mono ?_; rintro e w3 ⟨rfl, hb3⟩; have hz3 := hb3.size; simp at hz3; have hbk3 : Bk w3 w.heap.size 28 [.int .i64 0, .int .i64 0] := (by have hk := HBK.out; exact (by (repeat' (first | (with_reducible exact Bk.new _ _ _) | (with_reducible refine Bk.new1 ?_; first | rfl | (simp; done) | omega) | (with_reducible assumption) | (with_reducible refine Bk.alloc ?_ _) | (with_reducible refine Bk.drew ?_) | (with_reducible refine Bk.drewN ?_ _) | (with_reducible refine Bk.other ?_ ?_ _) | (with_reducible apply Bk.drewBy; with_reducible assumption) | (with_reducible apply Bk.viaB; with_reducible assumption) | omega | (simp; done))))); have r0 := hbk3.cell 0 rfl; have r1 := hbk3.cell 1 rfl; have rf := hbk3.fr; have hbn : Bk w3 w2.heap.size 28 [.int .i64 x, .int .i64 y] := (by (repeat' (first | (with_reducible exact Bk.new _ _ _) | (with_reducible refine Bk.new1 ?_; first | rfl | (simp; done) | omega) | (with_reducible assumption) | (with_reducible refine Bk.alloc ?_ _) | (with_reducible refine Bk.drew ?_) | (with_reducible refine Bk.drewN ?_ _) | (with_reducible refine Bk.other ?_ ?_ _) | (with_reducible apply Bk.drewBy; with_reducible assumption) | (with_reducible apply Bk.viaB; with_reducible assumption) | omega | (simp; done)))); have n0 := hbn.cell 0 rfl; have n1 := hbn.cell 1 rfl; clear hbk3 hbn)
        refine bodyPost_ret (v := .tuple #[.agg #[.int .i64 x, .int .i64 y], .bool true]) (by simp [results, Tryd.results47, go_sem, *]) rfl (ptPost_ok (by (repeat' (first | (with_reducible exact Below.refl _ _) | (with_reducible refine Below.alloc ?_ ?_ _) | (with_reducible refine Below.drew ?_) | (with_reducible refine below_drewN ?_ _) | (with_reducible refine Below.setCell ?_ ?_ _) | (with_reducible refine below_via ‹_› ?_ ?_) | (with_reducible refine below_grow ?_ ?_ _ _) | omega | (simp; done) | (simp; omega)))) HR.out.1.1 HR.out.1.2.1 HR.out.1.2.2.1 HR.out.1.2.2.2 HR.out.2)
end Go.Proofs.YtocpgnpdnoidnaaDoor
