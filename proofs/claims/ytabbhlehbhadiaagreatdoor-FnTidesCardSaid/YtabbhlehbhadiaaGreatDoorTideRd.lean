/- A tide read, both sides. Printed by wip/mkreadtide.py. -/
import Derived.Test.YtabbhlehbhadiaaGreatDoorWorkRd
import Derived.Test.YtabbhlehbhadiaaGreatDoorTideT
namespace Go.Proofs.YtabbhlehbhadiaaGreatDoor
open Go.RowKit Go.Sort
set_option linter.unusedVariables false
set_option maxRecDepth 100000

structure TideV where
  a : Int
  e : Int
  x : List Int
abbrev TideC := Int → Int → List Int → Bool
def tide3 (c : TideC) : List ByteArray → Option TideV
  | [a, b, h] => if numB a.data.toList && numB b.data.toList && rdB h.data.toList && c (numV a.data.toList) (numV b.data.toList) (rdX h.data.toList) then some ⟨numV a.data.toList, numV b.data.toList, rdX h.data.toList⟩ else none
  | _ => none
theorem tide3_len {c : TideC} {ps : List ByteArray} (h : ps.length ≠ 3) : tide3 c ps = none := by
  match ps, h with
  | [], _ => rfl
  | [_], _ => rfl
  | [_, _], _ => rfl
  | [_, _, _], h => exact absurd rfl h
  | _ :: _ :: _ :: _ :: _, _ => rfl
theorem tide3_some {c : TideC} {ps : List ByteArray} {d : TideV} (h : tide3 c ps = some d) :
    ∃ a b p, ps = [a, b, p] ∧ a.data.toList = Lib.itoa d.a ∧ b.data.toList = Lib.itoa d.e ∧ (rdB p.data.toList = true ∧ rdX p.data.toList = d.x) ∧ c d.a d.e d.x = true := by
  by_cases h3 : ps.length = 3
  · obtain ⟨a, b, p, rfl⟩ := three_ofB h3
    simp only [tide3] at h
    split at h
    · rename_i hc
      injection h with h
      subst h
      simp only [Bool.and_eq_true] at hc
      exact ⟨a, b, p, rfl, numB_itoa hc.1.1.1, numB_itoa hc.1.1.2, ⟨hc.1.2, rfl⟩, hc.2⟩
    · cases h
  · rw [tide3_len h3] at h; cases h
def tideRd (s : ByteArray) : Option TideV := tide3 tideB (cutB 32 s.data.toList)
def tideEq (s : ByteArray) : TideC := fun a b xs => (tideR a b xs).toList == s.toList
def tideRdI (s : ByteArray) : Option TideV := tide3 (tideEq s) ((wordsL s.data.toList).map bs)
def okT (d : TideV) : Bool := tideB d.a d.e d.x
def txT (d : TideV) : List UInt8 := tideT d.a d.e d.x
theorem tide_cut {s : ByteArray} {d : TideV} (h2 : txT d = s.data.toList) : cutAt 32 s.data.toList = [Lib.itoa d.a, Lib.itoa d.e, listL d.x] := by
  rw [← h2, txT, tideT, cutAt_app 32 _ _ (itoa_no32 _), cutAt_app 32 _ _ (itoa_no32 _), cutAt_clean 32 _ (listL_no32 _)]
theorem tide_back {d : TideV} {c : TideC} (h1 : okT d = true) (hc : c d.a d.e d.x = true) : tide3 c [bs (Lib.itoa d.a), bs (Lib.itoa d.e), bs (listL d.x)] = some d := by
  have hr := (rd_iff (listL d.x) d.x).2 ⟨rfl, tide_fits h1⟩
  obtain ⟨-, -, -, e1, e2, e3, e4, -⟩ := tideB_true h1
  have n1 := num_some (num_itoa (n := d.a) (by omega))
  have n2 := num_some (num_itoa (n := d.e) (by omega))
  simp only [tide3, bs_list, n1.1, n1.2, n2.1, n2.2, hr.1, hr.2, hc, Bool.and_self, if_true]
theorem tideRd_iff (s : ByteArray) (d : TideV) : tideRd s = some d ↔ (okT d = true ∧ txT d = s.data.toList) := by
  constructor
  · intro h
    obtain ⟨a, b, p, h1, h2, h3, h4, h5⟩ := tide3_some h
    have hl := ((rd_iff _ _).1 h4).1
    refine ⟨h5, ?_⟩
    have hc : cutAt 32 s.data.toList = [a.data.toList, b.data.toList, p.data.toList] := by
      have := congrArg (List.map fun x : ByteArray => x.data.toList) h1
      rw [cutB, List.map_map] at this
      rw [← List.map_id (cutAt 32 s.data.toList)]
      refine Eq.trans (List.map_congr_left fun p _ => ?_) this
      exact (bs_list p).symm
    have := jn_cutAt 32 s.data.toList
    rw [hc, jn_cons, jn_cons] at this
    rw [← this, txT, tideT, hl, h2, h3]
    simp [jn]
  · rintro ⟨h1, h2⟩
    have hc : cutB 32 s.data.toList = [bs (Lib.itoa d.a), bs (Lib.itoa d.e), bs (listL d.x)] := by
      rw [cutB, tide_cut h2]; rfl
    rw [tideRd, hc]
    exact tide_back h1 h1
theorem tideRdI_eq (s : ByteArray) : tideRdI s = tideRd s := by
  have key : ∀ d, tideRdI s = some d ↔ tideRd s = some d := by
    intro d
    rw [tideRd_iff]
    constructor
    · intro h
      obtain ⟨a, b, p, h1, h2, h3, h4, h5⟩ := tide3_some h
      have he : tideR d.a d.e d.x = s := by
        have := beq_iff_eq.1 h5
        rw [ByteArray.toList_eq, ByteArray.toList_eq] at this
        rw [← bs_self s, ← this, bs_self]
      cases hq : tideB d.a d.e d.x with
      | false =>
        rw [tideR, hq] at he
        rw [← he] at h1
        have h6 := congrArg List.length h1
        exact absurd h6 (by show ¬ ((0 : Nat) = 3); decide)
      | true =>
        rw [tideR, hq, if_pos rfl] at he
        exact ⟨hq, by rw [← he, bs_list]; rfl⟩
    · rintro ⟨h1, h2⟩
      have hw : (wordsL s.data.toList).map bs = [bs (Lib.itoa d.a), bs (Lib.itoa d.e), bs (listL d.x)] := by
        rw [wordsL, tide_cut h2]
        have e : ∀ l : List UInt8, l ≠ [] → (!l.isEmpty) = true := fun l hl => by cases l with | nil => exact absurd rfl hl | cons _ _ => rfl
        simp only [List.filter_cons, e _ (itoa_ne d.a), e _ (itoa_ne d.e), e _ (listL_ne d.x), if_true, List.filter_nil, List.map_cons, List.map_nil]
      rw [tideRdI, hw]
      refine tide_back h1 ?_
      have h5 : tideB d.a d.e d.x = true := h1
      have h6 : tideT d.a d.e d.x = s.data.toList := h2
      rw [tideEq, tideR, h5, if_pos rfl, ByteArray.toList_eq, ByteArray.toList_eq, bs_list, h6]
      simp
  cases h : tideRd s with
  | some d => exact (key d).2 h
  | none =>
    cases h2 : tideRdI s with
    | none => rfl
    | some d => rw [(key d).1 h2] at h; cases h
def tdA (o : Option TideV) : Int := (o.getD ⟨0, 0, []⟩).a
def tdE (o : Option TideV) : Int := (o.getD ⟨0, 0, []⟩).e
def tdX (o : Option TideV) : List Int := (o.getD ⟨0, 0, []⟩).x
def TidePost (o : Option TideV) (w : World) (e : Ending) (w' : World) : Prop :=
  ∃ v, e = .returned (.tuple #[.agg #[.int .i64 (tdA o), .int .i64 (tdE o), v], .bool o.isSome]) ∧ Below w.heap.size w w' ∧ SlO w' w.heap.size 1 encI v (tdX o)
theorem tidePost_none {o : Option TideV} {w w' : World} (h : Below w.heap.size w w') (ho : o = none) : TidePost o w (.returned (.tuple #[.agg #[.int .i64 0, .int .i64 0, .slice none 0 0], .bool false])) w' := by
  subst ho; exact ⟨_, rfl, h, .inl ⟨none, 0, rfl, rfl, Nat.zero_le _⟩, fun g hg => by simp [Value.ownBlock] at hg⟩
theorem tidePost_some {o : Option TideV} {w w' : World} (h : Below w.heap.size w w') {x y : Int} {zs : List Int} {v : Value} (ho : o = some ⟨x, y, zs⟩) (hS : SlO w' w.heap.size 1 encI v zs) : TidePost o w (.returned (.tuple #[.agg #[.int .i64 x, .int .i64 y, v], .bool true])) w' := by
  subst ho; exact ⟨v, rfl, h, hS⟩
theorem rdX_len {l : List UInt8} (h : rdB l = true) : (rdX l).length ≤ 64 := by
  have := ((rd_iff l (rdX l)).1 ⟨h, rfl⟩).2
  simp only [fitsB, Bool.and_eq_true, decide_eq_true_eq] at this
  omega
set_option maxHeartbeats 8000000 in
theorem c_impl_ReadTide (s : ByteArray) (w : World) (hs : (s.size : Int) ≤ 1048576) (hrd : Rd w) :
    Calls Tryz.prog 11 #[.string s] w (TidePost (tideRd s) w) := by
  rw [← tideRdI_eq]
  have csp := fun w' hr => c_SplitWords s w' hs hr
  have hcs := words_size s
  go_enter Tryz.func11, Tryz.ntmps11
  go_wp2_with fail
  refine (csp _ (hrd.at (by (repeat' (first | (with_reducible exact Below.refl _ _) | (with_reducible refine Below.alloc ?_ ?_ _) | (with_reducible refine Below.drew ?_) | (with_reducible refine below_drewN ?_ _) | (with_reducible refine Below.setCell ?_ ?_ _) | (with_reducible refine below_via ‹_› ?_ ?_) | (with_reducible refine below_grow ?_ ?_ _ _) | omega | (simp; done) | (simp; omega)))))).mono ?_
  rintro e w1 ⟨v, rfl, hb1, hS1⟩
  obtain ⟨hc1, hf1⟩ := bcell hb1; have hz1 := hb1.size; (try simp at hz1); (try have hy : w.heap.size < w1.heap.size := by omega); (try have hy : w.heap.size ≤ w1.heap.size := by omega); (try have hy : w.heap.size + 1 < w1.heap.size := by omega); (try have hy : w.heap.size + 1 ≤ w1.heap.size := by omega); (try have hy : w.heap.size + 2 < w1.heap.size := by omega); (try have hy : w.heap.size + 2 ≤ w1.heap.size := by omega)
  obtain ⟨xs, hxs⟩ : ∃ xs, xs = (wordsL s.data.toList).map bs := ⟨_, rfl⟩
  rw [← hxs] at hS1 hcs
  have hR0 : tideRdI s = tide3 (tideEq s) xs := by rw [tideRdI, ← hxs]
  clear hxs
  obtain ⟨ad, cap, rfl⟩ := hS1.1.form
  have hbk : Bk w1 w.heap.size 26 [.int .i64 0, .int .i64 0, .slice none 0 0] := (Bk.new _ _ _).below hb1
  have fx := hbk.fr
  have b0 := hbk.cell 0 rfl
  have b1 := hbk.cell 1 rfl
  have b2 := hbk.cell 2 rfl
  have hwx : w.heap.size < w1.heap.size := by omega
  have hB1 : Below w.heap.size w w1 := by (repeat' (first | (with_reducible exact Below.refl _ _) | (with_reducible refine Below.alloc ?_ ?_ _) | (with_reducible refine Below.drew ?_) | (with_reducible refine below_drewN ?_ _) | (with_reducible refine Below.setCell ?_ ?_ _) | (with_reducible refine below_via ‹_› ?_ ?_) | (with_reducible refine below_grow ?_ ?_ _ _) | omega | (simp; done) | (simp; omega)))
  clear hc1 hf1
  by_cases h2 : xs.length = 3
  · obtain ⟨a, b, p, rfl⟩ := three_ofB h2
    have hsa : (a.size : Int) ≤ 1048576 := by have := hcs a (by simp); omega
    have hsb : (b.size : Int) ≤ 1048576 := by have := hcs b (by simp); omega
    have hsp : (p.size : Int) ≤ 1048576 := by have := hcs p (by simp); omega
    obtain ⟨bb, off, rfl, hlo, hbb, hcl⟩ := cell_str hS1.1 rfl (k := 0) (by simp)
    have hbne : bb ≠ w.heap.size := by simp at hlo; omega
    have c0 := hcl 0 (by simp)
    have c1 := hcl 1 (by simp)
    have c2 := hcl 2 (by simp)
    simp only [List.getElem_cons_zero, List.getElem_cons_succ, Nat.add_zero] at c0 c1 c2
    have hz : (((3 : Nat) : Int) != 3) = false := rfl
    obtain ⟨x, hx⟩ : ∃ x, x = numV a.data.toList := ⟨_, rfl⟩
    obtain ⟨y, hy⟩ : ∃ y, y = numV b.data.toList := ⟨_, rfl⟩
    obtain ⟨o1, ho1⟩ : ∃ o, o = numB a.data.toList := ⟨_, rfl⟩
    obtain ⟨o2, ho2⟩ : ∃ o, o = numB b.data.toList := ⟨_, rfl⟩
    have hix : I64 x := by rw [hx]; exact numV_i64 _
    have hiy : I64 y := by rw [hy]; exact numV_i64 _
    have ca : ∀ w', Rd w' → Calls Tryz.prog 37 #[.string a] w' fun e w'' => e = .returned (.tuple #[.int .i64 x, .bool o1]) ∧ Below w'.heap.size w' w'' := fun w' hr => by rw [hx, ho1]; exact c_ReadDecimal a w' hsa hr
    have cb : ∀ w', Rd w' → Calls Tryz.prog 37 #[.string b] w' fun e w'' => e = .returned (.tuple #[.int .i64 y, .bool o2]) ∧ Below w'.heap.size w' w'' := fun w' hr => by rw [hy, ho2]; exact c_ReadDecimal b w' hsb hr
    have hR1 : tideRdI s = if o1 && o2 && rdB p.data.toList && (tideEq s) x y (rdX p.data.toList) then some ⟨x, y, rdX p.data.toList⟩ else none := by rw [hR0, hx, hy, ho1, ho2]; rfl
    have HR0 := hid hR1
    clear hS1 hcs h2 hR0 hR1 hx hy ho1 ho2 hcl
    go_wp2_with fail
    refine (ca _ (hrd.at (by (repeat' (first | (with_reducible exact Below.refl _ _) | (with_reducible refine Below.alloc ?_ ?_ _) | (with_reducible refine Below.drew ?_) | (with_reducible refine below_drewN ?_ _) | (with_reducible refine Below.setCell ?_ ?_ _) | (with_reducible refine below_via ‹_› ?_ ?_) | (with_reducible refine below_grow ?_ ?_ _ _) | omega | (simp; done) | (simp; omega)))))).mono ?_
    rintro e w2 ⟨rfl, hb2⟩
    have hz2 := hb2.size
    have e1 := below_cell hb2 hbb c1
    have e2 := below_cell hb2 hbb c2
    go_wp2_with fail
    refine (cb _ (hrd.at (by (repeat' (first | (with_reducible exact Below.refl _ _) | (with_reducible refine Below.alloc ?_ ?_ _) | (with_reducible refine Below.drew ?_) | (with_reducible refine below_drewN ?_ _) | (with_reducible refine Below.setCell ?_ ?_ _) | (with_reducible refine below_via ‹_› ?_ ?_) | (with_reducible refine below_grow ?_ ?_ _ _) | omega | (simp; done) | (simp; omega)))))).mono ?_
    rintro e w3 ⟨rfl, hb3⟩
    have hz3 := hb3.size
    have hbl3 : bb < w3.heap.size := by omega
    have e3 := below_cell hb3 (by omega) e2
    go_wp2_with fail
    refine (c_impl_ReadList p _ hsp (hrd.at (by (repeat' (first | (with_reducible exact Below.refl _ _) | (with_reducible refine Below.alloc ?_ ?_ _) | (with_reducible refine Below.drew ?_) | (with_reducible refine below_drewN ?_ _) | (with_reducible refine Below.setCell ?_ ?_ _) | (with_reducible refine below_via ‹_› ?_ ?_) | (with_reducible refine below_grow ?_ ?_ _ _) | omega | (simp; done) | (simp; omega)))))).mono ?_
    rintro e w4 ⟨u0, rfl, hb4, hS4⟩
    have hz4 := hb4.size
    have hB4 : Below w.heap.size w w4 := by (repeat' (first | (with_reducible exact Below.refl _ _) | (with_reducible refine Below.alloc ?_ ?_ _) | (with_reducible refine Below.drew ?_) | (with_reducible refine below_drewN ?_ _) | (with_reducible refine Below.setCell ?_ ?_ _) | (with_reducible refine below_via ‹_› ?_ ?_) | (with_reducible refine below_grow ?_ ?_ _ _) | omega | (simp; done) | (simp; omega)))
    have hbk4 := ((hbk.below hb2).below hb3).below hb4
    clear c0 c1 c2 e1 e2 e3 hbk b0 b1 b2 fx
    have fx := hbk4.fr
    have b0 := hbk4.cell 0 rfl
    have b1 := hbk4.cell 1 rfl
    have b2 := hbk4.cell 2 rfl
    have hR1 := HR0.out
    clear HR0
    have hxs3 := rdX_i64 (l := p.data.toList)
    have hlen := rdX_len (l := p.data.toList)
    obtain ⟨zs, hzs⟩ : ∃ zs, zs = rdX p.data.toList := ⟨_, rfl⟩
    rw [← hzs] at hS4 hxs3 hR1 hlen
    obtain ⟨adu, cpu, rfl⟩ := hS4.1.form
    clear hzs
    have hn1 : w.heap.size ≠ w4.heap.size := by omega
    have hn2 : w4.heap.size ≠ w.heap.size := by omega
    have hm4 : w.heap.size < w4.heap.size := by omega
    have hm3 : w.heap.size < w3.heap.size := by omega
    cases o1
    · have HR := hid (show tideRdI s = none by rw [hR1]; rfl)
      clear hR1
      go_wp2_with fail
      refine bodyPost_ret (v := .tuple #[.agg #[.int .i64 0, .int .i64 0, .slice none 0 0], .bool false]) (by simp [results, Tryz.results11, go_sem, *]) rfl (tidePost_none (by (repeat' (first | (with_reducible exact Below.refl _ _) | (with_reducible refine Below.alloc ?_ ?_ _) | (with_reducible refine Below.drew ?_) | (with_reducible refine below_drewN ?_ _) | (with_reducible refine Below.setCell ?_ ?_ _) | (with_reducible refine below_via ‹_› ?_ ?_) | (with_reducible refine below_grow ?_ ?_ _ _) | omega | (simp; done) | (simp; omega)))) HR.out)
    · cases o2
      · have HR := hid (show tideRdI s = none by rw [hR1]; rfl)
        clear hR1
        go_wp2_with fail
        refine bodyPost_ret (v := .tuple #[.agg #[.int .i64 0, .int .i64 0, .slice none 0 0], .bool false]) (by simp [results, Tryz.results11, go_sem, *]) rfl (tidePost_none (by (repeat' (first | (with_reducible exact Below.refl _ _) | (with_reducible refine Below.alloc ?_ ?_ _) | (with_reducible refine Below.drew ?_) | (with_reducible refine below_drewN ?_ _) | (with_reducible refine Below.setCell ?_ ?_ _) | (with_reducible refine below_via ‹_› ?_ ?_) | (with_reducible refine below_grow ?_ ?_ _ _) | omega | (simp; done) | (simp; omega)))) HR.out)
      · cases hrb : rdB p.data.toList
        · have HR := hid (show tideRdI s = none by rw [hR1, hrb]; rfl)
          clear hR1
          go_wp2_with fail
          refine bodyPost_ret (v := .tuple #[.agg #[.int .i64 0, .int .i64 0, .slice none 0 0], .bool false]) (by simp [results, Tryz.results11, go_sem, *]) rfl (tidePost_none (by (repeat' (first | (with_reducible exact Below.refl _ _) | (with_reducible refine Below.alloc ?_ ?_ _) | (with_reducible refine Below.drew ?_) | (with_reducible refine below_drewN ?_ _) | (with_reducible refine Below.setCell ?_ ?_ _) | (with_reducible refine below_via ‹_› ?_ ?_) | (with_reducible refine below_grow ?_ ?_ _ _) | omega | (simp; done) | (simp; omega)))) HR.out)
        · have HR1 := hid (show tideRdI s = if (tideEq s) x y zs then some ⟨x, y, zs⟩ else none by rw [hR1, hrb]; rfl)
          have hl64 := hlen hrb
          have HBK := hid hbk4
          clear hR1 hbk4 hlen
          cases hq : tideEq s x y zs
          · have HR := hid (show tideRdI s = none by rw [HR1.out, hq]; rfl)
            have hq1 : ((tideR x y zs).toList == s.toList) = false := hq
            have hq2 : ((tideR x y zs).toList != s.toList) = true := by simp [bne, hq1]
            go_wp2_with (go_at_call 12; refine (c_impl_TideText x y _ zs _ (by first | (with_reducible assumption) | (with_reducible apply SlO.at; (with_reducible assumption); (repeat' (first | (with_reducible exact Below.refl _ _) | (with_reducible refine Below.alloc ?_ ?_ _) | (with_reducible refine Below.drew ?_) | (with_reducible refine below_drewN ?_ _) | (with_reducible refine Below.setCell ?_ ?_ _) | (with_reducible refine below_via ‹_› ?_ ?_) | (with_reducible refine below_grow ?_ ?_ _ _) | omega | (simp; done) | (simp; omega))); done) | (with_reducible apply SlA.at; (with_reducible assumption); (repeat' (first | (with_reducible exact Below.refl _ _) | (with_reducible refine Below.alloc ?_ ?_ _) | (with_reducible refine Below.drew ?_) | (with_reducible refine below_drewN ?_ _) | (with_reducible refine Below.setCell ?_ ?_ _) | (with_reducible refine below_via ‹_› ?_ ?_) | (with_reducible refine below_grow ?_ ?_ _ _) | omega | (simp; done) | (simp; omega))); done)) hxs3 (by omega) hix hiy (hrd.pow.at (by (repeat' (first | (with_reducible exact Below.refl _ _) | (with_reducible refine Below.alloc ?_ ?_ _) | (with_reducible refine Below.drew ?_) | (with_reducible refine below_drewN ?_ _) | (with_reducible refine Below.setCell ?_ ?_ _) | (with_reducible refine below_via ‹_› ?_ ?_) | (with_reducible refine below_grow ?_ ?_ _ _) | omega | (simp; done) | (simp; omega)))))).mono ?_; rintro e w5 ⟨rfl, hb5⟩; have hz5 := hb5.size; (try simp at hz5); have hbk2 := HBK.out; have hbk3 : Bk w5 w.heap.size 26 [.int .i64 0, .int .i64 0, .slice none 0 0] := (by (repeat' (first | (with_reducible exact Bk.new _ _ _) | (with_reducible refine Bk.new1 ?_; first | rfl | (simp; done) | omega) | (with_reducible assumption) | (with_reducible refine Bk.alloc ?_ _) | (with_reducible refine Bk.drew ?_) | (with_reducible refine Bk.drewN ?_ _) | (with_reducible refine Bk.other ?_ ?_ _) | (with_reducible apply Bk.drewBy; with_reducible assumption) | (with_reducible apply Bk.viaB; with_reducible assumption) | omega | (simp; done)))); have r0 := hbk3.cell 0 rfl; have r1 := hbk3.cell 1 rfl; have r2 := hbk3.cell 2 rfl; have fx3 := hbk3.fr; have hbn : Bk w5 w4.heap.size 26 [.int .i64 x, .int .i64 y, .slice adu zs.length cpu] := (by (repeat' (first | (with_reducible exact Bk.new _ _ _) | (with_reducible refine Bk.new1 ?_; first | rfl | (simp; done) | omega) | (with_reducible assumption) | (with_reducible refine Bk.alloc ?_ _) | (with_reducible refine Bk.drew ?_) | (with_reducible refine Bk.drewN ?_ _) | (with_reducible refine Bk.other ?_ ?_ _) | (with_reducible apply Bk.drewBy; with_reducible assumption) | (with_reducible apply Bk.viaB; with_reducible assumption) | omega | (simp; done)))); have n0 := hbn.cell 0 rfl; have n1 := hbn.cell 1 rfl; have n2 := hbn.cell 2 rfl; have hSW := hid (hS4.below (show Below w4.heap.size w4 w5 by (repeat' (first | (with_reducible exact Below.refl _ _) | (with_reducible refine Below.alloc ?_ ?_ _) | (with_reducible refine Below.drew ?_) | (with_reducible refine below_drewN ?_ _) | (with_reducible refine Below.setCell ?_ ?_ _) | (with_reducible refine below_via ‹_› ?_ ?_) | (with_reducible refine below_grow ?_ ?_ _ _) | omega | (simp; done) | (simp; omega)))) (Nat.le_refl _)); clear hbk2 hbk3 hbn)
            refine bodyPost_ret (v := .tuple #[.agg #[.int .i64 0, .int .i64 0, .slice none 0 0], .bool false]) (by simp [results, Tryz.results11, go_sem, *]) rfl (tidePost_none (by (repeat' (first | (with_reducible exact Below.refl _ _) | (with_reducible refine Below.alloc ?_ ?_ _) | (with_reducible refine Below.drew ?_) | (with_reducible refine below_drewN ?_ _) | (with_reducible refine Below.setCell ?_ ?_ _) | (with_reducible refine below_via ‹_› ?_ ?_) | (with_reducible refine below_grow ?_ ?_ _ _) | omega | (simp; done) | (simp; omega)))) HR.out)
          · have HR := hid (show tideRdI s = some ⟨x, y, zs⟩ by rw [HR1.out, hq]; rfl)
            have hq1 : ((tideR x y zs).toList == s.toList) = true := hq
            have hq2 : ((tideR x y zs).toList != s.toList) = false := by simp [bne, hq1]
            go_wp2_with (go_at_call 12; refine (c_impl_TideText x y _ zs _ (by first | (with_reducible assumption) | (with_reducible apply SlO.at; (with_reducible assumption); (repeat' (first | (with_reducible exact Below.refl _ _) | (with_reducible refine Below.alloc ?_ ?_ _) | (with_reducible refine Below.drew ?_) | (with_reducible refine below_drewN ?_ _) | (with_reducible refine Below.setCell ?_ ?_ _) | (with_reducible refine below_via ‹_› ?_ ?_) | (with_reducible refine below_grow ?_ ?_ _ _) | omega | (simp; done) | (simp; omega))); done) | (with_reducible apply SlA.at; (with_reducible assumption); (repeat' (first | (with_reducible exact Below.refl _ _) | (with_reducible refine Below.alloc ?_ ?_ _) | (with_reducible refine Below.drew ?_) | (with_reducible refine below_drewN ?_ _) | (with_reducible refine Below.setCell ?_ ?_ _) | (with_reducible refine below_via ‹_› ?_ ?_) | (with_reducible refine below_grow ?_ ?_ _ _) | omega | (simp; done) | (simp; omega))); done)) hxs3 (by omega) hix hiy (hrd.pow.at (by (repeat' (first | (with_reducible exact Below.refl _ _) | (with_reducible refine Below.alloc ?_ ?_ _) | (with_reducible refine Below.drew ?_) | (with_reducible refine below_drewN ?_ _) | (with_reducible refine Below.setCell ?_ ?_ _) | (with_reducible refine below_via ‹_› ?_ ?_) | (with_reducible refine below_grow ?_ ?_ _ _) | omega | (simp; done) | (simp; omega)))))).mono ?_; rintro e w5 ⟨rfl, hb5⟩; have hz5 := hb5.size; (try simp at hz5); have hbk2 := HBK.out; have hbk3 : Bk w5 w.heap.size 26 [.int .i64 0, .int .i64 0, .slice none 0 0] := (by (repeat' (first | (with_reducible exact Bk.new _ _ _) | (with_reducible refine Bk.new1 ?_; first | rfl | (simp; done) | omega) | (with_reducible assumption) | (with_reducible refine Bk.alloc ?_ _) | (with_reducible refine Bk.drew ?_) | (with_reducible refine Bk.drewN ?_ _) | (with_reducible refine Bk.other ?_ ?_ _) | (with_reducible apply Bk.drewBy; with_reducible assumption) | (with_reducible apply Bk.viaB; with_reducible assumption) | omega | (simp; done)))); have r0 := hbk3.cell 0 rfl; have r1 := hbk3.cell 1 rfl; have r2 := hbk3.cell 2 rfl; have fx3 := hbk3.fr; have hbn : Bk w5 w4.heap.size 26 [.int .i64 x, .int .i64 y, .slice adu zs.length cpu] := (by (repeat' (first | (with_reducible exact Bk.new _ _ _) | (with_reducible refine Bk.new1 ?_; first | rfl | (simp; done) | omega) | (with_reducible assumption) | (with_reducible refine Bk.alloc ?_ _) | (with_reducible refine Bk.drew ?_) | (with_reducible refine Bk.drewN ?_ _) | (with_reducible refine Bk.other ?_ ?_ _) | (with_reducible apply Bk.drewBy; with_reducible assumption) | (with_reducible apply Bk.viaB; with_reducible assumption) | omega | (simp; done)))); have n0 := hbn.cell 0 rfl; have n1 := hbn.cell 1 rfl; have n2 := hbn.cell 2 rfl; have hSW := hid (hS4.below (show Below w4.heap.size w4 w5 by (repeat' (first | (with_reducible exact Below.refl _ _) | (with_reducible refine Below.alloc ?_ ?_ _) | (with_reducible refine Below.drew ?_) | (with_reducible refine below_drewN ?_ _) | (with_reducible refine Below.setCell ?_ ?_ _) | (with_reducible refine below_via ‹_› ?_ ?_) | (with_reducible refine below_grow ?_ ?_ _ _) | omega | (simp; done) | (simp; omega)))) (Nat.le_refl _)); clear hbk2 hbk3 hbn)
            refine bodyPost_ret (v := .tuple #[.agg #[.int .i64 x, .int .i64 y, .slice adu zs.length cpu], .bool true]) (by simp [results, Tryz.results11, go_sem, *]) rfl (tidePost_some (by (repeat' (first | (with_reducible exact Below.refl _ _) | (with_reducible refine Below.alloc ?_ ?_ _) | (with_reducible refine Below.drew ?_) | (with_reducible refine below_drewN ?_ _) | (with_reducible refine Below.setCell ?_ ?_ _) | (with_reducible refine below_via ‹_› ?_ ?_) | (with_reducible refine below_grow ?_ ?_ _ _) | omega | (simp; done) | (simp; omega)))) HR.out ?_)
            refine SlO.mono ?_ (show w.heap.size ≤ w3.heap.size by omega)
            repeat' (first | (exact hSW.out) | (refine SlO.setLt ?_ (by first | omega | (simp; omega)) _))
  · have hz : ((xs.length : Int) != 3) = true := by simp; omega
    have HR := hid (hR0.trans (tide3_len h2))
    clear hR0 hS1 hcs h2
    go_wp2_with fail
    refine bodyPost_ret (v := .tuple #[.agg #[.int .i64 0, .int .i64 0, .slice none 0 0], .bool false]) (by simp [results, Tryz.results11, go_sem, *]) rfl (tidePost_none (by (repeat' (first | (with_reducible exact Below.refl _ _) | (with_reducible refine Below.alloc ?_ ?_ _) | (with_reducible refine Below.drew ?_) | (with_reducible refine below_drewN ?_ _) | (with_reducible refine Below.setCell ?_ ?_ _) | (with_reducible refine below_via ‹_› ?_ ?_) | (with_reducible refine below_grow ?_ ?_ _ _) | omega | (simp; done) | (simp; omega)))) HR.out)
theorem td_len (s : ByteArray) : (tdX (tideRd s)).length ≤ 1099511627776 := by
  cases h : tideRd s with
  | none => simp [tdX]
  | some d =>
    have h1 := (tideB_true ((tideRd_iff s d).1 h).1).2.2.1
    show d.x.length ≤ _
    omega
end Go.Proofs.YtabbhlehbhadiaaGreatDoor
