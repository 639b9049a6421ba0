/- A ship read, both sides. -/
import Derived.Test.YtfnfkpmkppkleaaDoorReadP
import Derived.Test.YtfnfkpmkppkleaaDoorSrc
import Derived.Deep.RegionHeld3
namespace Go.Proofs.YtfnfkpmkppkleaaDoor
open Go.RowKit Go.Sort
set_option linter.unusedVariables false
set_option maxRecDepth 100000

def ship3 (a : ByteArray) (c : ByteArray → Int → Int → Int → Bool) : List Int → Option ShipD
  | [x, y, z] => if c a x y z then some ⟨a, x, y, z⟩ else none
  | _ => none
def ship2 (c : ByteArray → Int → Int → Int → Bool) : List ByteArray → Option ShipD
  | [a, b] => if rdB b.data.toList then ship3 a c (rdX b.data.toList) else none
  | _ => none
theorem ship2_some {c : ByteArray → Int → Int → Int → Bool} {ps : List ByteArray} {d : ShipD} (h : ship2 c ps = some d) :
    ∃ b, ps = [d.fName, b] ∧ rdB b.data.toList = true ∧ rdX b.data.toList = [d.fSpeed, d.fLoad, d.fDraught] ∧ c d.fName d.fSpeed d.fLoad d.fDraught = true := by
  match ps, h with
  | [a, b], h =>
    simp only [ship2] at h
    cases hr : rdB b.data.toList with
    | false => rw [hr] at h; cases h
    | true =>
      rw [hr, if_pos rfl] at h
      match hx : rdX b.data.toList, h with
      | [x, y, z], h =>
        simp only [ship3] at h
        cases hc : c a x y z with
        | false => rw [hc] at h; cases h
        | true =>
          rw [hc, if_pos rfl] at h
          injection h with h
          subst h
          exact ⟨b, rfl, hr, hx, hc⟩
      | [], h => cases h
      | [_], h => cases h
      | [_, _], h => cases h
      | _ :: _ :: _ :: _ :: _, h => cases h
  | [], h => cases h
  | [_], h => cases h
  | _ :: _ :: _ :: _, h => cases h
theorem ship2_of {c : ByteArray → Int → Int → Int → Bool} {a b : ByteArray} {x y z : Int} (hr : rdB b.data.toList = true) (hx : rdX b.data.toList = [x, y, z]) (hc : c a x y z = true) : ship2 c [a, b] = some ⟨a, x, y, z⟩ := by
  simp only [ship2, hr, if_true, hx, ship3, hc]
def shipRd (s : ByteArray) : Option ShipD := ship2 shipB (cutB 32 s.data.toList)
def shipEq (s : ByteArray) (a : ByteArray) (x y z : Int) : Bool := (shipR a x y z).toList == s.toList
def shipRdI (s : ByteArray) : Option ShipD := ship2 (shipEq s) ((wordsL s.data.toList).map bs)
theorem shipRd_iff (s : ByteArray) (d : ShipD) : shipRd s = some d ↔ (shipB d.fName d.fSpeed d.fLoad d.fDraught = true ∧ shipT d.fName d.fSpeed d.fLoad d.fDraught = s.data.toList) := by
  constructor
  · intro h
    obtain ⟨b, h1, h2, h3, h4⟩ := ship2_some h
    have hl := ((rd_iff _ _).1 ⟨h2, h3⟩).1
    refine ⟨h4, ?_⟩
    have hc : cutAt 32 s.data.toList = [d.fName.data.toList, b.data.toList] := by
      have := congrArg (List.map fun x : ByteArray => x.data.toList) h1
      rw [cutB, List.map_map] at this
      rw [← List.map_id (cutAt 32 s.data.toList)]
      refine Eq.trans (List.map_congr_left fun p _ => ?_) this
      exact (bs_list p).symm
    have := jn_cutAt 32 s.data.toList
    rw [hc, jn_cons] at this
    rw [← this, shipT, ← hl]
    simp [jn]
  · rintro ⟨h1, h2⟩
    have hn : nameB d.fName = true := by simp only [shipB, Bool.and_eq_true] at h1; exact h1.1.1.1
    obtain ⟨n1, n2⟩ := name_no32 hn
    have hc : cutB 32 s.data.toList = [d.fName, bs (listL [d.fSpeed, d.fLoad, d.fDraught])] := by
      rw [← h2, shipT, cutB, cutAt_app 32 _ _ n1, cutAt_clean 32 _ (listL_no32 _)]
      simp [bs_self]
    have hr := (rd_iff (listL [d.fSpeed, d.fLoad, d.fDraught]) [d.fSpeed, d.fLoad, d.fDraught]).2 ⟨rfl, (ship_fits h1).1⟩
    rw [shipRd, hc]
    exact ship2_of (by rw [bs_list]; exact hr.1) (by rw [bs_list]; exact hr.2) h1
theorem shipRdI_eq (s : ByteArray) : shipRdI s = shipRd s := by
  have key : ∀ d, shipRdI s = some d ↔ shipRd s = some d := by
    intro d
    rw [shipRd_iff]
    constructor
    · intro h
      obtain ⟨b, h1, h2, h3, h4⟩ := ship2_some h
      have he : shipR d.fName d.fSpeed d.fLoad d.fDraught = s := by
        have := beq_iff_eq.1 h4
        rw [ByteArray.toList_eq, ByteArray.toList_eq] at this
        rw [← bs_self s, ← this, bs_self]
      cases hq : shipB d.fName d.fSpeed d.fLoad d.fDraught with
      | false =>
        rw [shipR, hq] at he
        rw [← he] at h1
        have h5 := congrArg List.length h1
        exact absurd h5 (by show ¬ ((0 : Nat) = 2); decide)
      | true =>
        rw [shipR, hq, if_pos rfl] at he
        exact ⟨rfl, by rw [← he, bs_list]⟩
    · rintro ⟨h1, h2⟩
      have hn : nameB d.fName = true := by simp only [shipB, Bool.and_eq_true] at h1; exact h1.1.1.1
      obtain ⟨n1, n2⟩ := name_no32 hn
      have hw : (wordsL s.data.toList).map bs = [d.fName, bs (listL [d.fSpeed, d.fLoad, d.fDraught])] := by
        have h3 := listL_ne [d.fSpeed, d.fLoad, d.fDraught]
        rw [wordsL, ← h2, shipT, cutAt_app 32 _ _ n1, cutAt_clean 32 _ (listL_no32 _)]
        cases hn1 : d.fName.data.toList with
        | nil => exact absurd hn1 n2
        | cons p r =>
          cases hn2 : listL [d.fSpeed, d.fLoad, d.fDraught] with
          | nil => exact absurd hn2 h3
          | cons q t =>
            show [bs (p :: r), bs (q :: t)] = _
            rw [← hn1, bs_self]
      have hr := (rd_iff (listL [d.fSpeed, d.fLoad, d.fDraught]) [d.fSpeed, d.fLoad, d.fDraught]).2 ⟨rfl, (ship_fits h1).1⟩
      rw [shipRdI, hw]
      refine ship2_of (by rw [bs_list]; exact hr.1) (by rw [bs_list]; exact hr.2) ?_
      rw [shipEq, shipR, h1, if_pos rfl, ByteArray.toList_eq, ByteArray.toList_eq, bs_list, h2]
      simp
  cases h : shipRd s with
  | some d => exact (key d).2 h
  | none =>
    cases h2 : shipRdI s with
    | none => rfl
    | some d => rw [(key d).1 h2] at h; cases h
def zShip : ShipD := ⟨⟨#[]⟩, 0, 0, 0⟩
def ShipPost (o : Option ShipD) (w : World) (e : Ending) (w' : World) : Prop :=
  e = .returned (.tuple #[.agg #[.string (o.getD zShip).fName, .int .i64 (o.getD zShip).fSpeed, .int .i64 (o.getD zShip).fLoad, .int .i64 (o.getD zShip).fDraught], .bool o.isSome]) ∧ Below w.heap.size w w'
theorem shipPost_none {o : Option ShipD} {w w' : World} (h : Below w.heap.size w w') (ho : o = none) : ShipPost o w (.returned (.tuple #[.agg #[.string ⟨#[]⟩, .int .i64 0, .int .i64 0, .int .i64 0], .bool false])) w' := by
  subst ho; exact ⟨rfl, h⟩
theorem shipPost_some {o : Option ShipD} {w w' : World} (h : Below w.heap.size w w') {a : ByteArray} {x y z : Int} (ho : o = some ⟨a, x, y, z⟩) : ShipPost o w (.returned (.tuple #[.agg #[.string a, .int .i64 x, .int .i64 y, .int .i64 z], .bool true])) w' := by
  subst ho; exact ⟨rfl, h⟩
theorem two_of {xs : List ByteArray} (h : xs.length = 2) : ∃ a b, xs = [a, b] := by
  match xs, h with
  | [a, b], _ => exact ⟨a, b, rfl⟩
theorem three_of {xs : List Int} (h : xs.length = 3) : ∃ a b c, xs = [a, b, c] := by
  match xs, h with
  | [a, b, c], _ => exact ⟨a, b, c, rfl⟩
theorem ship2_len {c : ByteArray → Int → Int → Int → Bool} {ps : List ByteArray} (h : ps.length ≠ 2) : ship2 c ps = none := by
  match ps, h with
  | [], _ => rfl
  | [_], _ => rfl
  | [_, _], h => exact absurd rfl h
  | _ :: _ :: _ :: _, _ => rfl
theorem ship3_len {c : ByteArray → Int → Int → Int → Bool} {a : ByteArray} {xs : List Int} (h : xs.length ≠ 3) : ship3 a c xs = none := by
  match xs, h with
  | [], _ => rfl
  | [_], _ => rfl
  | [_, _], _ => rfl
  | [_, _, _], h => exact absurd rfl h
  | _ :: _ :: _ :: _ :: _, _ => rfl
theorem rdX_i64 {l : List UInt8} : ∀ x ∈ rdX l, I64 x := by
  intro x hx
  unfold rdX at hx
  split at hx
  · cases hx
  · split at hx
    · obtain ⟨y, _, rfl⟩ := List.mem_map.1 hx; exact numV_i64 _
    · cases hx
theorem cell_int {w : World} {lo : Nat} {ad : Option Addr} {cap n : Nat} {xs : List Int} (h : SlA w lo 1 encI (.slice ad n cap) xs) (hn : n = xs.length) {k : Nat} (hk : k < xs.length) :
    ∃ bb off, ad = some ⟨bb, off, none⟩ ∧ lo ≤ bb ∧ bb < w.heap.size ∧ ∀ k, (hk : k < xs.length) → w.cell? ⟨bb, off + k, none⟩ = some (.int .i64 xs[k]) := by
  rcases h with ⟨a', c', e', hx', _⟩ | ⟨b', off', c', e', hp', hc', hm', hlo', hbb', hcell'⟩
  · rw [hx'] at hk; simp at hk
  · simp only [Value.slice.injEq] at e'
    obtain ⟨rfl, -, rfl⟩ := e'
    exact ⟨b', off', rfl, hlo', hbb', fun k hk => by simpa [encI] using hcell' k hk 0 (by omega)⟩
theorem cell_str {w : World} {lo : Nat} {ad : Option Addr} {cap n : Nat} {xs : List ByteArray} (h : SlA w lo 1 encT (.slice ad n cap) xs) (hn : n = xs.length) {k : Nat} (hk : k < xs.length) :
    ∃ bb off, ad = some ⟨bb, off, none⟩ ∧ lo ≤ bb ∧ bb < w.heap.size ∧ ∀ k, (hk : k < xs.length) → w.cell? ⟨bb, off + k, none⟩ = some (.string xs[k]) := by
  rcases h with ⟨a', c', e', hx', _⟩ | ⟨b', off', c', e', hp', hc', hm', hlo', hbb', hcell'⟩
  · rw [hx'] at hk; simp at hk
  · simp only [Value.slice.injEq] at e'
    obtain ⟨rfl, -, rfl⟩ := e'
    exact ⟨b', off', rfl, hlo', hbb', fun k hk => by simpa [encT] using hcell' k hk 0 (by omega)⟩
set_option maxHeartbeats 4000000 in
theorem c_l25ReadShip (s : ByteArray) (w : World) (hs : (s.size : Int) ≤ 1048576) :
    Calls Tryd.prog 97 #[.string s] w (ShipPost (shipRd s) w) := by
  have csp := fun w' => c_l01Split 32 s w' hs
  have hcs := cutB_size 32 s
  go_enter Tryd.func97, Tryd.ntmps97
  go_wp2_with fail
  refine (csp _).mono ?_
  rintro e w1 ⟨v, rfl, hb1, hS1⟩
  obtain ⟨hc1, hf1⟩ := bcell hb1; have hz1 := hb1.size; (try simp at hz1); (try have hy : w.heap.size < w1.heap.size := by omega); (try have hy : w.heap.size ≤ w1.heap.size := by omega); (try have hy : w.heap.size + 1 < w1.heap.size := by omega); (try have hy : w.heap.size + 1 ≤ w1.heap.size := by omega); (try have hy : w.heap.size + 2 < w1.heap.size := by omega); (try have hy : w.heap.size + 2 ≤ w1.heap.size := by omega)
  obtain ⟨xs, hxs⟩ : ∃ xs, xs = cutB 32 s.data.toList := ⟨_, rfl⟩
  rw [← hxs] at hS1 hcs
  have hR0 : shipRd s = ship2 shipB xs := by rw [shipRd, ← hxs]
  clear hxs
  obtain ⟨ad, cap, rfl⟩ := hS1.1.form
  have hbk : Bk w1 w.heap.size 26 [.string ⟨#[]⟩, .int .i64 0, .int .i64 0, .int .i64 0] := (Bk.new _ _ _).below hb1
  have b0 := hbk.cell 0 rfl
  have b1 := hbk.cell 1 rfl
  have b2 := hbk.cell 2 rfl
  have b3 := hbk.cell 3 rfl
  have fx := hbk.fr
  have hwx : w.heap.size < w1.heap.size := by omega
  have hB1 : Below w.heap.size w w1 := by (repeat' (first | (with_reducible exact Below.refl _ _) | (with_reducible refine Below.alloc ?_ ?_ _) | (with_reducible refine Below.drew ?_) | (with_reducible refine below_drewN ?_ _) | (with_reducible refine Below.setCell ?_ ?_ _) | (with_reducible refine below_via ‹_› ?_ ?_) | (with_reducible refine below_grow ?_ ?_ _ _) | omega | (simp; done) | (simp; omega)))
  clear hc1 hf1
  by_cases h2 : xs.length = 2
  · obtain ⟨a, b, rfl⟩ := two_of h2
    have hsb : (b.size : Int) ≤ 1048576 := by have := hcs b (by simp); omega
    have hsa : a.size ≤ maxLen := by have := hcs a (by simp); unfold maxLen; omega
    obtain ⟨bb, off, rfl, hlo, hbb, hcl⟩ := cell_str hS1.1 rfl (k := 0) (by simp)
    have hbne : bb ≠ w.heap.size := by simp at hlo; omega
    have c0 := hcl 0 (by simp)
    have c1 := hcl 1 (by simp)
    simp only [List.getElem_cons_zero, List.getElem_cons_succ, Nat.add_zero] at c0 c1
    have hz : (((2 : Nat) : Int) != 2) = false := rfl
    clear hS1 hcs h2
    go_wp2_with fail
    refine (c_spec_ReadList b _ hsb).mono ?_
    rintro e w2 ⟨u, rfl, hb2, hS2⟩
    have hz2 := hb2.size
    have hB2 : Below w.heap.size w w2 := by (repeat' (first | (with_reducible exact Below.refl _ _) | (with_reducible refine Below.alloc ?_ ?_ _) | (with_reducible refine Below.drew ?_) | (with_reducible refine below_drewN ?_ _) | (with_reducible refine Below.setCell ?_ ?_ _) | (with_reducible refine below_via ‹_› ?_ ?_) | (with_reducible refine below_grow ?_ ?_ _ _) | omega | (simp; done) | (simp; omega)))
    have d0 := below_cell hb2 hbb c0
    have hbk2 := hbk.below hb2
    have hxs3 := rdX_i64 (l := b.data.toList)
    obtain ⟨zs, hzs⟩ : ∃ zs, zs = rdX b.data.toList := ⟨_, rfl⟩
    rw [← hzs] at hS2 hxs3
    obtain ⟨adu, cpu, rfl⟩ := hS2.1.form
    have HZ := hid hzs
    clear hzs
    clear b0 b1 b2 b3 fx c0 c1 hb1 hbk
    have b0 := hbk2.cell 0 rfl
    have b1 := hbk2.cell 1 rfl
    have b2 := hbk2.cell 2 rfl
    have b3 := hbk2.cell 3 rfl
    have fx := hbk2.fr
    cases hrb : rdB b.data.toList
    · have HR := hid (show shipRd s = none by rw [hR0]; simp only [ship2, hrb]; rfl)
      clear hR0
      go_wp2_with fail
      refine bodyPost_ret (v := .tuple #[.agg #[.string ⟨#[]⟩, .int .i64 0, .int .i64 0, .int .i64 0], .bool false]) (by simp [results, Tryd.results97, go_sem, *]) rfl (shipPost_none (by (repeat' (first | (with_reducible exact Below.refl _ _) | (with_reducible refine Below.alloc ?_ ?_ _) | (with_reducible refine Below.drew ?_) | (with_reducible refine below_drewN ?_ _) | (with_reducible refine Below.setCell ?_ ?_ _) | (with_reducible refine below_via ‹_› ?_ ?_) | (with_reducible refine below_grow ?_ ?_ _ _) | omega | (simp; done) | (simp; omega)))) HR.out)
    · by_cases h3 : zs.length = 3
      · obtain ⟨x, y, z, rfl⟩ := three_of h3
        obtain ⟨zb, zo, rfl, hlz, hzb, hzl⟩ := cell_int hS2.1 rfl (k := 0) (by simp)
        have e0 := hzl 0 (by simp)
        have e1 := hzl 1 (by simp)
        have e2 := hzl 2 (by simp)
        simp only [List.getElem_cons_zero, List.getElem_cons_succ, Nat.add_zero] at e0 e1 e2
        have hz3 : (((3 : Nat) : Int) != 3) = false := rfl
        have hix := hxs3 x (by simp)
        have hiy := hxs3 y (by simp)
        have hiz := hxs3 z (by simp)
        have k0 : ∀ w', Since w2 w' → w'.cell? ⟨bb, off, none⟩ = some (.string a) := fun w' h => below_cell h.out (by omega) d0
        have k1 : ∀ w', Since w2 w' → w'.cell? ⟨zb, zo, none⟩ = some (.int .i64 x) := fun w' h => below_cell h.out hzb e0
        have k2 : ∀ w', Since w2 w' → w'.cell? ⟨zb, zo + 1, none⟩ = some (.int .i64 y) := fun w' h => below_cell h.out hzb e1
        have k3 : ∀ w', Since w2 w' → w'.cell? ⟨zb, zo + 2, none⟩ = some (.int .i64 z) := fun w' h => below_cell h.out hzb e2
        have hR1 : shipRd s = if shipB a x y z then some ⟨a, x, y, z⟩ else none := by rw [hR0]; simp only [ship2, hrb, if_true, ← HZ.out, ship3]
        have HR1 := hid hR1
        have hm2 : w.heap.size < w2.heap.size := by omega
        have hB2' := hid hB2
        have HBK := hid hbk2
        clear hR0 hR1 hxs3 hzl hS2 b0 b1 b2 b3 fx hbk2 h3 hz hcl
        go_wp2_with fail
        go_region_held3 (fun w' => Since w2 w') ((refine since_of ?_; (repeat' (first | (with_reducible exact Below.refl _ _) | (with_reducible refine Below.alloc ?_ ?_ _) | (with_reducible refine Below.drew ?_) | (with_reducible refine below_drewN ?_ _) | (with_reducible refine Below.setCell ?_ ?_ _) | (with_reducible refine below_via ‹_› ?_ ?_) | (with_reducible refine below_grow ?_ ?_ _ _) | omega | (simp; done) | (simp; omega))))) (first | fail)
        all_goals
          have b0 := HBK.out.cell 0 rfl
          have b1 := HBK.out.cell 1 rfl
          have b2 := HBK.out.cell 2 rfl
          have b3 := HBK.out.cell 3 rfl
          have fx := HBK.out.fr
          have hne1 : w.heap.size ≠ w2.heap.size := by omega
          have hne2 : w2.heap.size ≠ w.heap.size := by omega
          clear k0 k1 k2 k3
          cases hq : shipB a x y z
          · have HR := hid (show shipRd s = none by rw [HR1.out, hq]; rfl)
            go_wp2_with (go_at_call 63; refine (c_l25Ship _ 0 a x y z _ hsa (by simp [*, go_sem]) (by simp [*, go_sem]) (by simp [*, go_sem]) (by simp [*, go_sem])).mono ?_; rintro e w' ⟨rfl, rfl⟩)
            refine bodyPost_ret (v := .tuple #[.agg #[.string ⟨#[]⟩, .int .i64 0, .int .i64 0, .int .i64 0], .bool false]) (by simp [results, Tryd.results97, go_sem, *]) rfl (shipPost_none (by (repeat' (first | (with_reducible exact Below.refl _ _) | (with_reducible refine Below.alloc ?_ ?_ _) | (with_reducible refine Below.drew ?_) | (with_reducible refine below_drewN ?_ _) | (with_reducible refine Below.setCell ?_ ?_ _) | (with_reducible refine below_via ‹_› ?_ ?_) | (with_reducible refine below_grow ?_ ?_ _ _) | omega | (simp; done) | (simp; omega)))) HR.out)
          · have HR := hid (show shipRd s = some ⟨a, x, y, z⟩ by rw [HR1.out, hq]; rfl)
            go_wp2_with (go_at_call 63; refine (c_l25Ship _ 0 a x y z _ hsa (by simp [*, go_sem]) (by simp [*, go_sem]) (by simp [*, go_sem]) (by simp [*, go_sem])).mono ?_; rintro e w' ⟨rfl, rfl⟩)
            refine bodyPost_ret (v := .tuple #[.agg #[.string a, .int .i64 x, .int .i64 y, .int .i64 z], .bool true]) (by simp [results, Tryd.results97, go_sem, *]) rfl (shipPost_some (by (repeat' (first | (with_reducible exact Below.refl _ _) | (with_reducible refine Below.alloc ?_ ?_ _) | (with_reducible refine Below.drew ?_) | (with_reducible refine below_drewN ?_ _) | (with_reducible refine Below.setCell ?_ ?_ _) | (with_reducible refine below_via ‹_› ?_ ?_) | (with_reducible refine below_grow ?_ ?_ _ _) | omega | (simp; done) | (simp; omega)))) HR.out)
      · have hz3 : ((zs.length : Int) != 3) = true := by simp; omega
        have HR := hid (show shipRd s = none by rw [hR0]; simp only [ship2, hrb, if_true, ← HZ.out]; exact ship3_len h3)
        clear hR0
        go_wp2_with fail
        refine bodyPost_ret (v := .tuple #[.agg #[.string ⟨#[]⟩, .int .i64 0, .int .i64 0, .int .i64 0], .bool false]) (by simp [results, Tryd.results97, go_sem, *]) rfl (shipPost_none (by (repeat' (first | (with_reducible exact Below.refl _ _) | (with_reducible refine Below.alloc ?_ ?_ _) | (with_reducible refine Below.drew ?_) | (with_reducible refine below_drewN ?_ _) | (with_reducible refine Below.setCell ?_ ?_ _) | (with_reducible refine below_via ‹_› ?_ ?_) | (with_reducible refine below_grow ?_ ?_ _ _) | omega | (simp; done) | (simp; omega)))) HR.out)
  · have hz : ((xs.length : Int) != 2) = true := by simp; omega
    have HR := hid (hR0.trans (ship2_len h2))
    clear hR0 hS1 hcs h2
    go_wp2_with fail
    refine bodyPost_ret (v := .tuple #[.agg #[.string ⟨#[]⟩, .int .i64 0, .int .i64 0, .int .i64 0], .bool false]) (by simp [results, Tryd.results97, go_sem, *]) rfl (shipPost_none (by (repeat' (first | (with_reducible exact Below.refl _ _) | (with_reducible refine Below.alloc ?_ ?_ _) | (with_reducible refine Below.drew ?_) | (with_reducible refine below_drewN ?_ _) | (with_reducible refine Below.setCell ?_ ?_ _) | (with_reducible refine below_via ‹_› ?_ ?_) | (with_reducible refine below_grow ?_ ?_ _ _) | omega | (simp; done) | (simp; omega)))) HR.out)
theorem words_size (s : ByteArray) : ∀ x ∈ (wordsL s.data.toList).map bs, x.size ≤ s.size := by
  intro x hx
  rw [words_map] at hx
  exact cutB_size 32 s x (List.mem_filter.1 hx).1
set_option maxHeartbeats 4000000 in
theorem c_impl_ReadShip (s : ByteArray) (w : World) (hs : (s.size : Int) ≤ 1048576) (hrd : Rd w) :
    Calls Tryd.prog 43 #[.string s] w (ShipPost (shipRd s) w) := by
  rw [← shipRdI_eq]
  have csp := fun w' hr => c_SplitWords s w' hs hr
  have hcs := words_size s
  go_enter Tryd.func43, Tryd.ntmps43
  go_wp2_with fail
  refine (csp _ (hrd.at (by (repeat' (first | (with_reducible exact Below.refl _ _) | (with_reducible refine Below.alloc ?_ ?_ _) | (with_reducible refine Below.drew ?_) | (with_reducible refine below_drewN ?_ _) | (with_reducible refine Below.setCell ?_ ?_ _) | (with_reducible refine below_via ‹_› ?_ ?_) | (with_reducible refine below_grow ?_ ?_ _ _) | omega | (simp; done) | (simp; omega)))))).mono ?_
  rintro e w1 ⟨v, rfl, hb1, hS1⟩
  obtain ⟨hc1, hf1⟩ := bcell hb1; have hz1 := hb1.size; (try simp at hz1); (try have hy : w.heap.size < w1.heap.size := by omega); (try have hy : w.heap.size ≤ w1.heap.size := by omega); (try have hy : w.heap.size + 1 < w1.heap.size := by omega); (try have hy : w.heap.size + 1 ≤ w1.heap.size := by omega); (try have hy : w.heap.size + 2 < w1.heap.size := by omega); (try have hy : w.heap.size + 2 ≤ w1.heap.size := by omega)
  obtain ⟨xs, hxs⟩ : ∃ xs, xs = (wordsL s.data.toList).map bs := ⟨_, rfl⟩
  rw [← hxs] at hS1 hcs
  have hR0 : shipRdI s = ship2 (shipEq s) xs := by rw [shipRdI, ← hxs]
  clear hxs
  obtain ⟨ad, cap, rfl⟩ := hS1.1.form
  have hbk : Bk w1 w.heap.size 26 [.string ⟨#[]⟩, .int .i64 0, .int .i64 0, .int .i64 0] := (Bk.new _ _ _).below hb1
  have b0 := hbk.cell 0 rfl
  have b1 := hbk.cell 1 rfl
  have b2 := hbk.cell 2 rfl
  have b3 := hbk.cell 3 rfl
  have fx := hbk.fr
  have hwx : w.heap.size < w1.heap.size := by omega
  have hB1 : Below w.heap.size w w1 := by (repeat' (first | (with_reducible exact Below.refl _ _) | (with_reducible refine Below.alloc ?_ ?_ _) | (with_reducible refine Below.drew ?_) | (with_reducible refine below_drewN ?_ _) | (with_reducible refine Below.setCell ?_ ?_ _) | (with_reducible refine below_via ‹_› ?_ ?_) | (with_reducible refine below_grow ?_ ?_ _ _) | omega | (simp; done) | (simp; omega)))
  clear hc1 hf1
  by_cases h2 : xs.length = 2
  · obtain ⟨a, b, rfl⟩ := two_of h2
    have hsb : (b.size : Int) ≤ 1048576 := by have := hcs b (by simp); omega
    have hsa : (a.size : Int) ≤ 1048576 := by have := hcs a (by simp); omega
    obtain ⟨bb, off, rfl, hlo, hbb, hcl⟩ := cell_str hS1.1 rfl (k := 0) (by simp)
    have hbne : bb ≠ w.heap.size := by simp at hlo; omega
    have c0 := hcl 0 (by simp)
    have c1 := hcl 1 (by simp)
    simp only [List.getElem_cons_zero, List.getElem_cons_succ, Nat.add_zero] at c0 c1
    have hz : (((2 : Nat) : Int) != 2) = false := rfl
    clear hS1 hcs h2
    go_wp2_with fail
    refine (c_impl_ReadList b _ hsb (hrd.at (by (repeat' (first | (with_reducible exact Below.refl _ _) | (with_reducible refine Below.alloc ?_ ?_ _) | (with_reducible refine Below.drew ?_) | (with_reducible refine below_drewN ?_ _) | (with_reducible refine Below.setCell ?_ ?_ _) | (with_reducible refine below_via ‹_› ?_ ?_) | (with_reducible refine below_grow ?_ ?_ _ _) | omega | (simp; done) | (simp; omega)))))).mono ?_
    rintro e w2 ⟨u, rfl, hb2, hS2⟩
    have hz2 := hb2.size
    have hB2 : Below w.heap.size w w2 := by (repeat' (first | (with_reducible exact Below.refl _ _) | (with_reducible refine Below.alloc ?_ ?_ _) | (with_reducible refine Below.drew ?_) | (with_reducible refine below_drewN ?_ _) | (with_reducible refine Below.setCell ?_ ?_ _) | (with_reducible refine below_via ‹_› ?_ ?_) | (with_reducible refine below_grow ?_ ?_ _ _) | omega | (simp; done) | (simp; omega)))
    have d0 := below_cell hb2 hbb c0
    have hbk2 := hbk.below hb2
    have hxs3 := rdX_i64 (l := b.data.toList)
    obtain ⟨zs, hzs⟩ : ∃ zs, zs = rdX b.data.toList := ⟨_, rfl⟩
    rw [← hzs] at hS2 hxs3
    obtain ⟨adu, cpu, rfl⟩ := hS2.1.form
    have HZ := hid hzs
    clear hzs
    clear b0 b1 b2 b3 fx c0 c1 hb1 hbk
    have b0 := hbk2.cell 0 rfl
    have b1 := hbk2.cell 1 rfl
    have b2 := hbk2.cell 2 rfl
    have b3 := hbk2.cell 3 rfl
    have fx := hbk2.fr
    cases hrb : rdB b.data.toList
    · have HR := hid (show shipRdI s = none by rw [hR0]; simp only [ship2, hrb]; rfl)
      clear hR0
      go_wp2_with fail
      refine bodyPost_ret (v := .tuple #[.agg #[.string ⟨#[]⟩, .int .i64 0, .int .i64 0, .int .i64 0], .bool false]) (by simp [results, Tryd.results43, go_sem, *]) rfl (shipPost_none (by (repeat' (first | (with_reducible exact Below.refl _ _) | (with_reducible refine Below.alloc ?_ ?_ _) | (with_reducible refine Below.drew ?_) | (with_reducible refine below_drewN ?_ _) | (with_reducible refine Below.setCell ?_ ?_ _) | (with_reducible refine below_via ‹_› ?_ ?_) | (with_reducible refine below_grow ?_ ?_ _ _) | omega | (simp; done) | (simp; omega)))) HR.out)
    · by_cases h3 : zs.length = 3
      · obtain ⟨x, y, z, rfl⟩ := three_of h3
        obtain ⟨zb, zo, rfl, hlz, hzb, hzl⟩ := cell_int hS2.1 rfl (k := 0) (by simp)
        have e0 := hzl 0 (by simp)
        have e1 := hzl 1 (by simp)
        have e2 := hzl 2 (by simp)
        simp only [List.getElem_cons_zero, List.getElem_cons_succ, Nat.add_zero] at e0 e1 e2
        have hz3 : (((3 : Nat) : Int) != 3) = false := rfl
        have hix := hxs3 x (by simp)
        have hiy := hxs3 y (by simp)
        have hiz := hxs3 z (by simp)
        have k0 : ∀ w', Since w2 w' → w'.cell? ⟨bb, off, none⟩ = some (.string a) := fun w' h => below_cell h.out (by omega) d0
        have k1 : ∀ w', Since w2 w' → w'.cell? ⟨zb, zo, none⟩ = some (.int .i64 x) := fun w' h => below_cell h.out hzb e0
        have k2 : ∀ w', Since w2 w' → w'.cell? ⟨zb, zo + 1, none⟩ = some (.int .i64 y) := fun w' h => below_cell h.out hzb e1
        have k3 : ∀ w', Since w2 w' → w'.cell? ⟨zb, zo + 2, none⟩ = some (.int .i64 z) := fun w' h => below_cell h.out hzb e2
        have hR1 : shipRdI s = if shipEq s a x y z then some ⟨a, x, y, z⟩ else none := by rw [hR0]; simp only [ship2, hrb, if_true, ← HZ.out, ship3]
        have HR1 := hid hR1
        have hm2 : w.heap.size < w2.heap.size := by omega
        have hB2' := hid hB2
        have HBK := hid hbk2
        clear hR0 hR1 hxs3 hzl hS2 b0 b1 b2 b3 fx hbk2 h3 hz hcl
        go_wp2_with fail
        go_region_held3 (fun w' => Since w2 w') ((refine since_of ?_; (repeat' (first | (with_reducible exact Below.refl _ _) | (with_reducible refine Below.alloc ?_ ?_ _) | (with_reducible refine Below.drew ?_) | (with_reducible refine below_drewN ?_ _) | (with_reducible refine Below.setCell ?_ ?_ _) | (with_reducible refine below_via ‹_› ?_ ?_) | (with_reducible refine below_grow ?_ ?_ _ _) | omega | (simp; done) | (simp; omega))))) (first | fail)
        all_goals
          have b0 := HBK.out.cell 0 rfl
          have b1 := HBK.out.cell 1 rfl
          have b2 := HBK.out.cell 2 rfl
          have b3 := HBK.out.cell 3 rfl
          have fx := HBK.out.fr
          have hne1 : w.heap.size ≠ w2.heap.size := by omega
          have hne2 : w2.heap.size ≠ w.heap.size := by omega
          clear k0 k1 k2 k3
          cases hq : shipEq s a x y z
          · have HR := hid (show shipRdI s = none by rw [HR1.out, hq]; rfl)
            have hq1 : ((shipR a x y z).toList == s.toList) = false := hq
            have hq2 : ((shipR a x y z).toList != s.toList) = true := by simp [bne, hq1]
            go_wp2_with (go_at_call 18; refine (c_impl_ShipText a x y z _ hsa hix hiy hiz (hrd.pow.at (by (repeat' (first | (with_reducible exact Below.refl _ _) | (with_reducible refine Below.alloc ?_ ?_ _) | (with_reducible refine Below.drew ?_) | (with_reducible refine below_drewN ?_ _) | (with_reducible refine Below.setCell ?_ ?_ _) | (with_reducible refine below_via ‹_› ?_ ?_) | (with_reducible refine below_grow ?_ ?_ _ _) | omega | (simp; done) | (simp; omega)))))).mono ?_; rintro e w3 ⟨rfl, hb3⟩; have hz3 := hb3.size; have hbk2 := HBK.out; have hbk3 : Bk w3 w.heap.size 26 [.string ⟨#[]⟩, .int .i64 0, .int .i64 0, .int .i64 0] := (by (repeat' (first | (with_reducible exact Bk.new _ _ _) | (with_reducible refine Bk.new1 ?_; first | rfl | (simp; done) | omega) | (with_reducible assumption) | (with_reducible refine Bk.alloc ?_ _) | (with_reducible refine Bk.drew ?_) | (with_reducible refine Bk.drewN ?_ _) | (with_reducible refine Bk.other ?_ ?_ _) | (with_reducible apply Bk.drewBy; with_reducible assumption) | (with_reducible apply Bk.viaB; with_reducible assumption) | omega | (simp; done)))); have r0 := hbk3.cell 0 rfl; have r1 := hbk3.cell 1 rfl; have r2 := hbk3.cell 2 rfl; have r3 := hbk3.cell 3 rfl; have fx3 := hbk3.fr; have hbn : Bk w3 w2.heap.size 26 [.string a, .int .i64 x, .int .i64 y, .int .i64 z] := (by (repeat' (first | (with_reducible exact Bk.new _ _ _) | (with_reducible refine Bk.new1 ?_; first | rfl | (simp; done) | omega) | (with_reducible assumption) | (with_reducible refine Bk.alloc ?_ _) | (with_reducible refine Bk.drew ?_) | (with_reducible refine Bk.drewN ?_ _) | (with_reducible refine Bk.other ?_ ?_ _) | (with_reducible apply Bk.drewBy; with_reducible assumption) | (with_reducible apply Bk.viaB; with_reducible assumption) | omega | (simp; done)))); have n0 := hbn.cell 0 rfl; have n1 := hbn.cell 1 rfl; have n2 := hbn.cell 2 rfl; have n3 := hbn.cell 3 rfl; clear hbk2 hbk3 hbn)
            refine bodyPost_ret (v := .tuple #[.agg #[.string ⟨#[]⟩, .int .i64 0, .int .i64 0, .int .i64 0], .bool false]) (by simp [results, Tryd.results43, go_sem, *]) rfl (shipPost_none (by (repeat' (first | (with_reducible exact Below.refl _ _) | (with_reducible refine Below.alloc ?_ ?_ _) | (with_reducible refine Below.drew ?_) | (with_reducible refine below_drewN ?_ _) | (with_reducible refine Below.setCell ?_ ?_ _) | (with_reducible refine below_via ‹_› ?_ ?_) | (with_reducible refine below_grow ?_ ?_ _ _) | omega | (simp; done) | (simp; omega)))) HR.out)
          · have HR := hid (show shipRdI s = some ⟨a, x, y, z⟩ by rw [HR1.out, hq]; rfl)
            have hq1 : ((shipR a x y z).toList == s.toList) = true := hq
            have hq2 : ((shipR a x y z).toList != s.toList) = false := by simp [bne, hq1]
            go_wp2_with (go_at_call 18; refine (c_impl_ShipText a x y z _ hsa hix hiy hiz (hrd.pow.at (by (repeat' (first | (with_reducible exact Below.refl _ _) | (with_reducible refine Below.alloc ?_ ?_ _) | (with_reducible refine Below.drew ?_) | (with_reducible refine below_drewN ?_ _) | (with_reducible refine Below.setCell ?_ ?_ _) | (with_reducible refine below_via ‹_› ?_ ?_) | (with_reducible refine below_grow ?_ ?_ _ _) | omega | (simp; done) | (simp; omega)))))).mono ?_; rintro e w3 ⟨rfl, hb3⟩; have hz3 := hb3.size; have hbk2 := HBK.out; have hbk3 : Bk w3 w.heap.size 26 [.string ⟨#[]⟩, .int .i64 0, .int .i64 0, .int .i64 0] := (by (repeat' (first | (with_reducible exact Bk.new _ _ _) | (with_reducible refine Bk.new1 ?_; first | rfl | (simp; done) | omega) | (with_reducible assumption) | (with_reducible refine Bk.alloc ?_ _) | (with_reducible refine Bk.drew ?_) | (with_reducible refine Bk.drewN ?_ _) | (with_reducible refine Bk.other ?_ ?_ _) | (with_reducible apply Bk.drewBy; with_reducible assumption) | (with_reducible apply Bk.viaB; with_reducible assumption) | omega | (simp; done)))); have r0 := hbk3.cell 0 rfl; have r1 := hbk3.cell 1 rfl; have r2 := hbk3.cell 2 rfl; have r3 := hbk3.cell 3 rfl; have fx3 := hbk3.fr; have hbn : Bk w3 w2.heap.size 26 [.string a, .int .i64 x, .int .i64 y, .int .i64 z] := (by (repeat' (first | (with_reducible exact Bk.new _ _ _) | (with_reducible refine Bk.new1 ?_; first | rfl | (simp; done) | omega) | (with_reducible assumption) | (with_reducible refine Bk.alloc ?_ _) | (with_reducible refine Bk.drew ?_) | (with_reducible refine Bk.drewN ?_ _) | (with_reducible refine Bk.other ?_ ?_ _) | (with_reducible apply Bk.drewBy; with_reducible assumption) | (with_reducible apply Bk.viaB; with_reducible assumption) | omega | (simp; done)))); have n0 := hbn.cell 0 rfl; have n1 := hbn.cell 1 rfl; have n2 := hbn.cell 2 rfl; have n3 := hbn.cell 3 rfl; clear hbk2 hbk3 hbn)
            refine bodyPost_ret (v := .tuple #[.agg #[.string a, .int .i64 x, .int .i64 y, .int .i64 z], .bool true]) (by simp [results, Tryd.results43, go_sem, *]) rfl (shipPost_some (by (repeat' (first | (with_reducible exact Below.refl _ _) | (with_reducible refine Below.alloc ?_ ?_ _) | (with_reducible refine Below.drew ?_) | (with_reducible refine below_drewN ?_ _) | (with_reducible refine Below.setCell ?_ ?_ _) | (with_reducible refine below_via ‹_› ?_ ?_) | (with_reducible refine below_grow ?_ ?_ _ _) | omega | (simp; done) | (simp; omega)))) HR.out)
      · have hz3 : ((zs.length : Int) != 3) = true := by simp; omega
        have HR := hid (show shipRdI s = none by rw [hR0]; simp only [ship2, hrb, if_true, ← HZ.out]; exact ship3_len h3)
        clear hR0
        go_wp2_with fail
        refine bodyPost_ret (v := .tuple #[.agg #[.string ⟨#[]⟩, .int .i64 0, .int .i64 0, .int .i64 0], .bool false]) (by simp [results, Tryd.results43, go_sem, *]) rfl (shipPost_none (by (repeat' (first | (with_reducible exact Below.refl _ _) | (with_reducible refine Below.alloc ?_ ?_ _) | (with_reducible refine Below.drew ?_) | (with_reducible refine below_drewN ?_ _) | (with_reducible refine Below.setCell ?_ ?_ _) | (with_reducible refine below_via ‹_› ?_ ?_) | (with_reducible refine below_grow ?_ ?_ _ _) | omega | (simp; done) | (simp; omega)))) HR.out)
  · have hz : ((xs.length : Int) != 2) = true := by simp; omega
    have HR := hid (hR0.trans (ship2_len h2))
    clear hR0 hS1 hcs h2
    go_wp2_with fail
    refine bodyPost_ret (v := .tuple #[.agg #[.string ⟨#[]⟩, .int .i64 0, .int .i64 0, .int .i64 0], .bool false]) (by simp [results, Tryd.results43, go_sem, *]) rfl (shipPost_none (by (repeat' (first | (with_reducible exact Below.refl _ _) | (with_reducible refine Below.alloc ?_ ?_ _) | (with_reducible refine Below.drew ?_) | (with_reducible refine below_drewN ?_ _) | (with_reducible refine Below.setCell ?_ ?_ _) | (with_reducible refine below_via ‹_› ?_ ?_) | (with_reducible refine below_grow ?_ ?_ _ _) | omega | (simp; done) | (simp; omega)))) HR.out)
def shipV (s : ByteArray) : ShipD := (shipRd s).getD zShip
def shipOk (s : ByteArray) : Bool := (shipRd s).isSome
theorem c_spec_ReadShip (s : ByteArray) (w : World) (hs : (s.size : Int) ≤ 1048576) :
    Calls Tryd.prog 42 #[.string s] w fun e w' => e = .returned (.tuple #[.agg #[.string (shipV s).fName, .int .i64 (shipV s).fSpeed, .int .i64 (shipV s).fLoad, .int .i64 (shipV s).fDraught], .bool (shipOk s)]) ∧ Below w.heap.size w w' := by
  have cr : ∀ w', Calls Tryd.prog 97 #[.string s] w' fun e w'' => e = .returned (.tuple #[.agg #[.string (shipV s).fName, .int .i64 (shipV s).fSpeed, .int .i64 (shipV s).fLoad, .int .i64 (shipV s).fDraught], .bool (shipOk s)]) ∧ Below w'.heap.size w' w'' := fun w' => c_l25ReadShip s w' hs
  obtain ⟨d, hd⟩ : ∃ d, d = shipV s := ⟨_, rfl⟩
  obtain ⟨b, hb⟩ : ∃ b, b = shipOk s := ⟨_, rfl⟩
  rw [← hd, ← hb] at cr ⊢
  clear hd hb
  go_enter Tryd.func42, Tryd.ntmps42
  go_wp2_with fail
  refine (cr _).mono ?_
  rintro e w1 ⟨rfl, hb1⟩
  have hbk : Bk w1 w.heap.size 26 [.string ⟨#[]⟩, .int .i64 0, .int .i64 0, .int .i64 0] := (Bk.new _ _ _).below hb1
  have b0 := hbk.cell 0 rfl
  have b1 := hbk.cell 1 rfl
  have b2 := hbk.cell 2 rfl
  have b3 := hbk.cell 3 rfl
  have fx := hbk.fr
  have hz1 := hb1.size
  simp at hz1
  go_wp2_with fail
  refine bodyPost_ret (v := .tuple #[.agg #[.string d.fName, .int .i64 d.fSpeed, .int .i64 d.fLoad, .int .i64 d.fDraught], .bool b]) (by simp [results, Tryd.results42, go_sem, *]) rfl ⟨rfl, by (repeat' (first | (with_reducible exact Below.refl _ _) | (with_reducible refine Below.alloc ?_ ?_ _) | (with_reducible refine Below.drew ?_) | (with_reducible refine below_drewN ?_ _) | (with_reducible refine Below.setCell ?_ ?_ _) | (with_reducible refine below_via ‹_› ?_ ?_) | (with_reducible refine below_grow ?_ ?_ _ _) | omega | (simp; done) | (simp; omega)))⟩
theorem c_impl_ReadShip' (s : ByteArray) (w : World) (hs : (s.size : Int) ≤ 1048576) (hrd : Rd w) :
    Calls Tryd.prog 43 #[.string s] w fun e w' => e = .returned (.tuple #[.agg #[.string (shipV s).fName, .int .i64 (shipV s).fSpeed, .int .i64 (shipV s).fLoad, .int .i64 (shipV s).fDraught], .bool (shipOk s)]) ∧ Below w.heap.size w w' := c_impl_ReadShip s w hs hrd
end Go.Proofs.YtfnfkpmkppkleaaDoor
