/- The program's and the reference's item taken out of a list. -/
import Derived.Test.YtgdkaadlhpehlaaDrop
import Derived.Test.YtgdkaadlhpehlaaKept
import Derived.Deep.RegionLaw
import Derived.Lib.SliceRun
import Derived.Laws.IdiomCopy
namespace Go.Proofs.Ytgdkaadlhpehlaa
open Go.RowKit Go.Sort
set_option linter.unusedVariables false
set_option maxRecDepth 100000

def CloneR (e : TypeId) (xs : List ItemD) (w : World) (en : Ending) (w' : World) : Prop := ∃ u, en = .returned u ∧ Below w.heap.size w w' ∧ w'.ownsRow w.heap.size e 2 u xs.length (xs.flatMap encItem)
theorem one_encItem (y : ItemD) : ∀ u ∈ encItem y, u.oneCell' = true := by intro u hu; simp [encItem] at hu; rcases hu with rfl | rfl <;> rfl
theorem c_clone_item (v : Value) (xs : List ItemD) (w : World) (h : SlA w 0 2 encItem v xs) (hl : xs.length ≤ 1048576) :
    Calls Try.prog 50 #[v] w (CloneR 88 xs w) := by
  obtain ⟨i0, hi, iz0, iz1, iz2⟩ := info_parts info_Item
  have h' := h
  obtain ⟨ad, cap, bk, off, rfl, hm, -, -⟩ := h.uni
  go_enter Try.func50, Try.ntmps50
  go_wp2_with (at_make; refine (wpList_make_own _ rfl _ _ 24 rfl w.heap.size 88 i0 _ 2 Try.underlying24 hi iz0 iz1 _ _ _ xs.length rfl rfl rfl (by rw [iz2]; omega) (by unfold maxLen; omega) (Nat.le_refl _) ?_))
  intro w1 hown hgr
  have HB : Below w.heap.size w w1 := (Below.refl _ _).grown hgr (Nat.le_refl _) (fun k hk => by cases hk)
  have HA := hid (Acc.made hown (.inl rfl) HB.size encItem)
  have hS : SlA w1 0 2 encItem _ xs := h'.at HB
  clear hown hgr h'
  go_wp2_with (at_builtin; refine wpList_pushAll rfl (.tmp 5) (.tmp 6) 24 rfl i0 _ 32 Try.underlying24 hi iz0 iz1 iz2 rfl (by decide) (fun _ => rfl) rfl HA.out rfl hS one_encItem (by unfold maxLen; simp; omega) (by simp; omega) ?_; intro v1 w1 hA1)
  go_ret
  have := hA1.done (fun _ => rfl) HB (Nat.le_refl _)
  exact ⟨_, rfl, this.1, by simpa using hA1.own⟩
theorem run_clear_item (w : World) (ty : TypeId) (b o c : Nat) (hc : ∀ j, j < 2 → (w.cell? ⟨b, o + j, none⟩).isSome = true) (hf : ∀ j, j < 2 → w.frozen? ⟨b, o + j, none⟩ = false) :
    (Builtin.clear_ #[24] ty #[.slice (some ⟨b, o, none⟩) 1 c]).run Try.prog w = .ok (.tuple #[]) (w.setCells b o [.string ⟨#[]⟩, .string ⟨#[]⟩]) := by
  have hv := Try.zeroValue88
  have hz : (Builtin.zeroCells (Value.agg #[.string ⟨#[]⟩, .string ⟨#[]⟩]).cells 1).toList = [.string ⟨#[]⟩, .string ⟨#[]⟩] := by kernel_rfl
  have hst := run_storeCells_cells (P := Try.prog) b o [.string ⟨#[]⟩, .string ⟨#[]⟩] 0 w (by simpa using hc) (by simpa using hf) (by intro v hv'; simp at hv'; subst hv'; rfl)
  simp only [Nat.add_zero] at hst
  simp [Builtin.clear_, run_underlying Try.underlying24, hv, hz, hst]
/-- a list of the call's own, at the head of its block, cell by cell -/
theorem own_cells {w : World} {base e g n cap : Nat} {xs : List ItemD} (h : w.ownsRow base e 2 (.slice (some ⟨g, 0, none⟩) n cap) n (xs.flatMap encItem)) (hn : n = xs.length) :
    base ≤ g ∧ g < w.heap.size ∧ n ≤ cap ∧ cap ≤ maxLen ∧ (∀ j, w.frozen? ⟨g, j, none⟩ = false) ∧ ∀ j, j < n * 2 → w.cell? ⟨g, j, none⟩ = some ((xs.flatMap encItem).getD j undef) := by
  obtain ⟨h0, h⟩ := h
  rcases h with ⟨e, _⟩ | ⟨g', cap', cur, e, hg, hh, hc, hm, hs, ht⟩
  · cases e
  · simp only [Value.slice.injEq, Option.some.injEq, Addr.mk.injEq] at e
    obtain ⟨⟨rfl, -, -⟩, -, rfl⟩ := e
    have hlt := (Array.getElem?_eq_some_iff.1 hh).1
    refine ⟨hg, hlt, hc, hm, fun j => by simp [World.frozen?, hh], fun j hj => ?_⟩
    have hl : (xs.flatMap encItem).length = n * 2 := by rw [flat_len (n := 2) encItem (fun _ => rfl), hn]
    have hcur : j < cur.size := by rw [hs]; have := Nat.mul_le_mul_right 2 hc; omega
    rw [← ht]
    simp [World.cell?, hh, List.getD, hcur, hj]
theorem slo_of_cells {w : World} {lo g cap m : Nat} {L : List ItemD} (hm : m = L.length) (hg : g < w.heap.size) (hlo : lo ≤ g) (hf : ∀ j, w.frozen? ⟨g, j, none⟩ = false) (hc : L.length ≤ cap) (hcm : cap ≤ maxLen) (h : ∀ q, q < L.length * 2 → w.cell? ⟨g, q, none⟩ = some ((L.flatMap encItem).getD q undef)) : SlO w lo 2 encItem (.slice (some ⟨g, 0, none⟩) m cap) L := by
  subst hm
  refine ⟨?_, fun b hb => by simp [Value.ownBlock] at hb; subst hb; exact ⟨hg, hlo, hf⟩⟩
  by_cases h0 : L.length = 0
  · have : L = [] := List.eq_nil_of_length_eq_zero h0
    subst this
    exact .inl ⟨_, cap, rfl, rfl, hcm⟩
  · refine .inr ⟨g, 0, cap, rfl, by omega, hc, hcm, hlo, hg, fun i hi j hj => ?_⟩
    have hq : i * 2 + j < L.length * 2 := by omega
    rw [Nat.zero_add, h _ hq, flat_get (n := 2) encItem (fun _ => rfl) L i hi j hj]
theorem kept_setCells {M : Nat → Prop} {g : Nat} (hM : M g) : ∀ (vs : List Value) (o : Nat) {a w : World}, Kept M a w → Kept M a (w.setCells g o vs)
  | [], _, _, _, h => h
  | v :: r, o, _, _, h => kept_setCells hM r (o + 1) (h.set ⟨g, o, none⟩ v hM)
def DelR (base g n cap i : Nat) (xs : List ItemD) (w : World) (e : Ending) (w' : World) : Prop := e = .returned (.slice (some ⟨g, 0, none⟩) (n - 1) cap) ∧ SlO w' base 2 encItem (.slice (some ⟨g, 0, none⟩) (n - 1) cap) (xs.take i ++ xs.drop (i + 1)) ∧ Kept (fun b => b = g) w w'
set_option maxHeartbeats 2000000 in
theorem c_delete_item (base g n cap i : Nat) (xs : List ItemD) (w : World) (h : w.ownsRow base 88 2 (.slice (some ⟨g, 0, none⟩) n cap) n (xs.flatMap encItem)) (hn : n = xs.length) (hi : i < n) :
    Calls Try.prog 49 #[.slice (some ⟨g, 0, none⟩) n cap, .int .i64 i, .int .i64 ((i + 1 : Nat) : Int)] w (DelR base g n cap i xs w) := by
  obtain ⟨i0, hi0, iz0, iz1, iz2⟩ := info_parts info_Item
  obtain ⟨hbg, hgw, hnc, hcm, hfr, hcell⟩ := own_cells h hn
  unfold maxLen at hcm
  obtain ⟨news, hnews⟩ : ∃ z, z = (xs.drop (i + 1)).flatMap encItem := ⟨_, rfl⟩
  have hlen : news.length = (n - (i + 1)) * 2 := by rw [hnews, flat_len (n := 2) encItem (fun _ => rfl)]; simp; omega
  have hfl : xs.flatMap encItem = (xs.take (i + 1)).flatMap encItem ++ news := by rw [hnews, ← List.flatMap_append, List.take_append_drop]
  have hfl1 : ((xs.take (i + 1)).flatMap encItem).length = (i + 1) * 2 := by rw [flat_len (n := 2) encItem (fun _ => rfl)]; simp; omega
  have hget : ∀ t u, news[t]? = some u → w.cell? ⟨g, (i + 1) * 2 + t, none⟩ = some u := fun t u hu => by
    have ht : t < news.length := (List.getElem?_eq_some_iff.1 hu).1
    rw [hcell _ (by omega), hfl, List.getD_eq_getElem?_getD, List.getElem?_append_right (by omega), hfl1, Nat.add_sub_cancel_left, hu]; rfl
  obtain ⟨A, hA, hsrc⟩ : ∃ A : Addr, (if cap = i + 1 then some (⟨g, 0, none⟩ : Addr) else some ⟨g, (i + 1) * 2, none⟩) = some A ∧ Hid (∀ t u, news[t]? = some u → w.drew.cell? (A.add t) = some u) := by
    by_cases hc : cap = i + 1
    · refine ⟨⟨g, 0, none⟩, by simp [hc], fun t u hu => ?_⟩
      have h0 : news.length = 0 := by rw [hlen]; omega
      rw [List.length_eq_zero_iff.1 h0] at hu
      simp at hu
    · refine ⟨⟨g, (i + 1) * 2, none⟩, by simp [hc], fun t u hu => ?_⟩
      rw [Addr.add_lit]; exact hget t u hu
  have s1 := hid hlen
  have HNW := hid hnews
  have s2 : Hid (∀ u ∈ news, u.oneCell' = true) := by
    intro u hu
    rw [hnews] at hu
    obtain ⟨x, _, hx⟩ := List.mem_flatMap.1 hu
    exact one_encItem x u hx
  have s3 : Hid (∀ t, t < news.length → (w.drew.cell? ⟨g, 0 + i * 2 + t, none⟩).isSome = true ∧ w.drew.frozen? ⟨g, 0 + i * 2 + t, none⟩ = false) := by
    intro t ht
    rw [hlen] at ht
    exact ⟨by show (w.cell? _).isSome = true; rw [hcell _ (by omega)]; rfl, hfr _⟩
  obtain ⟨W1, hW1⟩ : ∃ W1, W1 = w.drew.setCells g (0 + i * 2) news := ⟨_, rfl⟩
  have hW : Hid (W1 = w.drew.setCells g (0 + i * 2) news) := hW1
  have hic : i ≤ cap := by omega
  have hjc : i + 1 ≤ cap := by omega
  have hiI : (i : Int) < n := by omega
  have hb1 : (0 : Int) ≤ (i : Int) + 1 := by omega
  have hb2 : (i : Int) + 1 ≤ n := by omega
  have HI := hid (And.intro hn (And.intro hcell hfr))
  clear hW1 hlen hget hnews hcell hfl hfl1 h hn hfr
  go_enter Try.func49, Try.ntmps49
  go_wp2_with fail
  go_region_law (refine step_append_room rfl (.tmp 22) (.tmp 25) 24 rfl 88 i0 2 Try.underlying24 hi0 iz1 g 0 i cap (by simp [Act.eval, Act.put]) A (n - (i + 1)) (cap - (i + 1)) news (by simp [Act.eval, Act.put]) s1.out hsrc.out s2.out (by omega) s3.out ?_; rw [← hW.out])
  obtain ⟨hn, hcell, hfr⟩ := HI.out
  have hnl := s1.out
  have hf1 : ∀ j, W1.frozen? ⟨g, j, none⟩ = false := fun j => by rw [hW.out, World.frozen?_setCells]; exact hfr j
  have ho1 : ∀ q, (n - 1) * 2 ≤ q → W1.cell? ⟨g, q, none⟩ = w.cell? ⟨g, q, none⟩ := fun q hq => by
    rw [hW.out, World.cell?_setCells_out]; rfl
    intro _ _; right; simp only; rw [hnl]; omega
  have he : i + (n - (i + 1)) = n - 1 := by omega
  have he2 : n - (n - 1) = 1 := by omega
  have hcl : ∀ ty, (Builtin.clear_ #[24] ty #[.slice (some ⟨g, (n - 1) * 2, none⟩) 1 (cap - (n - 1))]).run Try.prog W1 = .ok (.tuple #[]) (W1.setCells g ((n - 1) * 2) [.string ⟨#[]⟩, .string ⟨#[]⟩]) := fun ty =>
    run_clear_item W1 ty g ((n - 1) * 2) _ (fun j hj => by rw [ho1 _ (by omega), hcell _ (by omega)]; rfl) (fun j hj => hf1 _)
  have HH := hid (And.intro hcell (And.intro ho1 (And.intro hf1 hnl)))
  clear hcell hfr hf1 ho1 hnl
  have hn1I : ((n - 1 : Nat) : Int) ≤ n := by omega
  have hn1c : ((n - 1 : Nat) : Int) ≤ cap := by omega
  have hne : ¬ cap = n - 1 := by omega
  have HN := hid hn
  clear hn
  rw [he]
  go_wp2_with fail
  go_ret
  obtain ⟨hcell, ho1, hf1, hnl⟩ := HH.out
  have hnx := HN.out
  have hK1 : Kept (fun b => b = g) w W1 := by rw [hW.out]; exact kept_setCells (M := fun b => b = g) rfl _ _ (show Kept (fun b => b = g) w w.drew from Kept.of (below_drewN (Below.refl _ _) 1))
  have hK : Kept (fun b => b = g) w (W1.setCells g ((n - 1) * 2) [.string ⟨#[]⟩, .string ⟨#[]⟩]) := kept_setCells (M := fun b => b = g) rfl _ _ hK1
  have hLl : (xs.take i ++ xs.drop (i + 1)).length = n - 1 := by simp; omega
  refine ⟨rfl, slo_of_cells hLl.symm (Nat.lt_of_lt_of_le hgw hK.size) hbg (fun j => by rw [World.frozen?_setCells]; exact hf1 j) (by rw [hLl]; omega) (by unfold maxLen; omega) (fun q hq => ?_), hK⟩
  rw [hLl] at hq
  have hLf : (xs.take i ++ xs.drop (i + 1)).flatMap encItem = (xs.take i).flatMap encItem ++ news := by rw [List.flatMap_append, HNW.out]
  have htl : ((xs.take i).flatMap encItem).length = i * 2 := by rw [flat_len (n := 2) encItem (fun _ => rfl)]; simp; omega
  rw [World.cell?_setCells_out g _ _ _ _ (fun _ _ => .inl hq), hLf]
  by_cases hqi : q < i * 2
  · have e1 : W1.cell? ⟨g, q, none⟩ = w.cell? ⟨g, q, none⟩ := by
      rw [hW.out, World.cell?_setCells_out g _ _ _ _ (fun _ _ => .inl (by simp only; omega))]; rfl
    have hxf : xs.flatMap encItem = (xs.take i).flatMap encItem ++ (xs.drop i).flatMap encItem := by rw [← List.flatMap_append, List.take_append_drop]
    rw [e1, hcell q (by omega), hxf, List.getD_eq_getElem?_getD, List.getD_eq_getElem?_getD, List.getElem?_append_left (by omega), List.getElem?_append_left (by omega)]
  · obtain ⟨s, rfl⟩ : ∃ s, q = i * 2 + s := ⟨q - i * 2, by omega⟩
    have hs : s < news.length := by rw [hnl]; omega
    have e1 := World.cell?_setCells_in g news (0 + i * 2) w.drew (fun j hj => (s3.out j hj).1) s hs
    rw [← hW.out, Nat.zero_add] at e1
    rw [e1, List.getD_eq_getElem?_getD, List.getElem?_append_right (by omega), htl, Nat.add_sub_cancel_left, List.getElem?_eq_getElem hs]; rfl
def ItemsCode (xs : List ItemD) (code : Int) (w : World) (e : Ending) (w' : World) : Prop := ∃ u, e = .returned (.tuple #[u, .int .i64 code]) ∧ Below w.heap.size w w' ∧ SlO w' w.heap.size 2 encItem u xs
theorem itemsCode_none {w w' : World} (h : Below w.heap.size w w') {code : Int} {xs : List ItemD} (hc : xs = []) : ItemsCode xs code w (.returned (.tuple #[.slice none 0 0, .int .i64 code])) w' :=
  ⟨_, rfl, h, .inl ⟨none, 0, rfl, hc, Nat.zero_le _⟩, fun b hb => by simp [Value.ownBlock] at hb⟩
set_option maxHeartbeats 2000000 in
theorem c_impl_DropItem (v : Value) (xs : List ItemD) (c : ByteArray) (w : World) (h : SlA w 0 2 encItem v xs) (hok : ∀ x ∈ xs, okItem x) (hcs : c.size ≤ maxLen) :
    Calls Try.prog 11 #[v, .string c] w (ItemsCode (drR xs c.toList) (drC xs c.toList) w) := by
  cases hq : itemsB xs
  · have HR := hid (show drR xs c.toList = [] ∧ drC xs c.toList = 1 by simp [drR, drC, hq])
    go_enter Try.func11, Try.ntmps11
    go_wp2_with (first | (go_at_call 47; refine (c_impl_ValidItems _ _ _ (by first | (with_reducible assumption) | (with_reducible apply SlO.at; (with_reducible assumption); (repeat' (first | (with_reducible exact Below.refl _ _) | (with_reducible refine Below.alloc ?_ ?_ _) | (with_reducible refine Below.drew ?_) | (with_reducible refine below_drewN ?_ _) | (with_reducible refine Below.setCell ?_ ?_ _) | (with_reducible refine below_via ‹_› ?_ ?_) | (with_reducible refine below_grow ?_ ?_ _ _) | omega | (simp; done) | (simp; omega))); done) | (with_reducible apply SlA.at; (with_reducible assumption); (repeat' (first | (with_reducible exact Below.refl _ _) | (with_reducible refine Below.alloc ?_ ?_ _) | (with_reducible refine Below.drew ?_) | (with_reducible refine below_drewN ?_ _) | (with_reducible refine Below.setCell ?_ ?_ _) | (with_reducible refine below_via ‹_› ?_ ?_) | (with_reducible refine below_grow ?_ ?_ _ _) | omega | (simp; done) | (simp; omega))); done)) (by assumption)).mono ?_; rintro e w1 ⟨rfl, hb⟩; obtain ⟨hc, hf⟩ := bcell hb; have hz := hb.size; (try simp at hz); (try have hz0 : ∀ b, b < w.heap.size → b < w1.heap.size := fun b h => by omega); (try have hz1 : w.heap.size < w1.heap.size := by omega); (try have hz2 : w.heap.size + 1 < w1.heap.size := by omega); (try have hz3 : w.heap.size + 2 < w1.heap.size := by omega)))
    go_ret2
    rw [HR.out.2]
    exact itemsCode_none (by (repeat' (first | (with_reducible exact Below.refl _ _) | (with_reducible refine Below.alloc ?_ ?_ _) | (with_reducible refine Below.drew ?_) | (with_reducible refine below_drewN ?_ _) | (with_reducible refine Below.setCell ?_ ?_ _) | (with_reducible refine below_via ‹_› ?_ ?_) | (with_reducible refine below_grow ?_ ?_ _ _) | omega | (simp; done) | (simp; omega)))) HR.out.1
  · cases hh : hitB xs c.toList
    · have HR := hid (show drR xs c.toList = [] ∧ drC xs c.toList = 3 by simp [drR, drC, hq, hh])
      go_enter Try.func11, Try.ntmps11
      go_wp2_with (first | (go_at_call 47; refine (c_impl_ValidItems _ _ _ (by first | (with_reducible assumption) | (with_reducible apply SlO.at; (with_reducible assumption); (repeat' (first | (with_reducible exact Below.refl _ _) | (with_reducible refine Below.alloc ?_ ?_ _) | (with_reducible refine Below.drew ?_) | (with_reducible refine below_drewN ?_ _) | (with_reducible refine Below.setCell ?_ ?_ _) | (with_reducible refine below_via ‹_› ?_ ?_) | (with_reducible refine below_grow ?_ ?_ _ _) | omega | (simp; done) | (simp; omega))); done) | (with_reducible apply SlA.at; (with_reducible assumption); (repeat' (first | (with_reducible exact Below.refl _ _) | (with_reducible refine Below.alloc ?_ ?_ _) | (with_reducible refine Below.drew ?_) | (with_reducible refine below_drewN ?_ _) | (with_reducible refine Below.setCell ?_ ?_ _) | (with_reducible refine below_via ‹_› ?_ ?_) | (with_reducible refine below_grow ?_ ?_ _ _) | omega | (simp; done) | (simp; omega))); done)) (by assumption)).mono ?_; rintro e w1 ⟨rfl, hb⟩; obtain ⟨hc, hf⟩ := bcell hb; have hz := hb.size; (try simp at hz); (try have hz0 : ∀ b, b < w.heap.size → b < w1.heap.size := fun b h => by omega); (try have hz1 : w.heap.size < w1.heap.size := by omega); (try have hz2 : w.heap.size + 1 < w1.heap.size := by omega); (try have hz3 : w.heap.size + 2 < w1.heap.size := by omega)) | (go_at_call 48; refine (c_itemOf _ _ _ _ (by first | (with_reducible assumption) | (with_reducible apply SlO.at; (with_reducible assumption); (repeat' (first | (with_reducible exact Below.refl _ _) | (with_reducible refine Below.alloc ?_ ?_ _) | (with_reducible refine Below.drew ?_) | (with_reducible refine below_drewN ?_ _) | (with_reducible refine Below.setCell ?_ ?_ _) | (with_reducible refine below_via ‹_› ?_ ?_) | (with_reducible refine below_grow ?_ ?_ _ _) | omega | (simp; done) | (simp; omega))); done) | (with_reducible apply SlA.at; (with_reducible assumption); (repeat' (first | (with_reducible exact Below.refl _ _) | (with_reducible refine Below.alloc ?_ ?_ _) | (with_reducible refine Below.drew ?_) | (with_reducible refine below_drewN ?_ _) | (with_reducible refine Below.setCell ?_ ?_ _) | (with_reducible refine below_via ‹_› ?_ ?_) | (with_reducible refine below_grow ?_ ?_ _ _) | omega | (simp; done) | (simp; omega))); done))).mono ?_; rintro e w1 ⟨rfl, hb⟩; obtain ⟨hc, hf⟩ := bcell hb; have hz := hb.size; (try simp at hz); (try have hz0 : ∀ b, b < w.heap.size → b < w1.heap.size := fun b h => by omega); (try have hz1 : w.heap.size < w1.heap.size := by omega); (try have hz2 : w.heap.size + 1 < w1.heap.size := by omega); (try have hz3 : w.heap.size + 2 < w1.heap.size := by omega)))
      go_ret2
      rw [HR.out.2]
      exact itemsCode_none (by (repeat' (first | (with_reducible exact Below.refl _ _) | (with_reducible refine Below.alloc ?_ ?_ _) | (with_reducible refine Below.drew ?_) | (with_reducible refine below_drewN ?_ _) | (with_reducible refine Below.setCell ?_ ?_ _) | (with_reducible refine below_via ‹_› ?_ ?_) | (with_reducible refine below_grow ?_ ?_ _ _) | omega | (simp; done) | (simp; omega)))) HR.out.1
    · obtain ⟨hl, hd⟩ := drop_hit hq hh
      have hn40 : xs.length ≤ 40 := by simp only [itemsB, risesB, Bool.and_eq_true, decide_eq_true_eq] at hq; omega
      have HR := hid (show drR xs c.toList = xs.take (lowI ItemD.fKey c.toList xs) ++ xs.drop (lowI ItemD.fKey c.toList xs + 1) ∧ drC xs c.toList = 0 by simp [drR, drC, hq, hh, hd])
      clear hd
      go_enter Try.func11, Try.ntmps11
      go_wp2_with (first | (go_at_call 47; refine (c_impl_ValidItems _ _ _ (by first | (with_reducible assumption) | (with_reducible apply SlO.at; (with_reducible assumption); (repeat' (first | (with_reducible exact Below.refl _ _) | (with_reducible refine Below.alloc ?_ ?_ _) | (with_reducible refine Below.drew ?_) | (with_reducible refine below_drewN ?_ _) | (with_reducible refine Below.setCell ?_ ?_ _) | (with_reducible refine below_via ‹_› ?_ ?_) | (with_reducible refine below_grow ?_ ?_ _ _) | omega | (simp; done) | (simp; omega))); done) | (with_reducible apply SlA.at; (with_reducible assumption); (repeat' (first | (with_reducible exact Below.refl _ _) | (with_reducible refine Below.alloc ?_ ?_ _) | (with_reducible refine Below.drew ?_) | (with_reducible refine below_drewN ?_ _) | (with_reducible refine Below.setCell ?_ ?_ _) | (with_reducible refine below_via ‹_› ?_ ?_) | (with_reducible refine below_grow ?_ ?_ _ _) | omega | (simp; done) | (simp; omega))); done)) (by assumption)).mono ?_; rintro e w1 ⟨rfl, hb⟩; obtain ⟨hc, hf⟩ := bcell hb; have hz := hb.size; (try simp at hz); (try have hz0 : ∀ b, b < w.heap.size → b < w1.heap.size := fun b h => by omega); (try have hz1 : w.heap.size < w1.heap.size := by omega); (try have hz2 : w.heap.size + 1 < w1.heap.size := by omega); (try have hz3 : w.heap.size + 2 < w1.heap.size := by omega)) | (go_at_call 48; refine (c_itemOf _ _ _ _ (by first | (with_reducible assumption) | (with_reducible apply SlO.at; (with_reducible assumption); (repeat' (first | (with_reducible exact Below.refl _ _) | (with_reducible refine Below.alloc ?_ ?_ _) | (with_reducible refine Below.drew ?_) | (with_reducible refine below_drewN ?_ _) | (with_reducible refine Below.setCell ?_ ?_ _) | (with_reducible refine below_via ‹_› ?_ ?_) | (with_reducible refine below_grow ?_ ?_ _ _) | omega | (simp; done) | (simp; omega))); done) | (with_reducible apply SlA.at; (with_reducible assumption); (repeat' (first | (with_reducible exact Below.refl _ _) | (with_reducible refine Below.alloc ?_ ?_ _) | (with_reducible refine Below.drew ?_) | (with_reducible refine below_drewN ?_ _) | (with_reducible refine Below.setCell ?_ ?_ _) | (with_reducible refine below_via ‹_› ?_ ?_) | (with_reducible refine below_grow ?_ ?_ _ _) | omega | (simp; done) | (simp; omega))); done))).mono ?_; rintro e w1 ⟨rfl, hb⟩; obtain ⟨hc, hf⟩ := bcell hb; have hz := hb.size; (try simp at hz); (try have hz0 : ∀ b, b < w.heap.size → b < w1.heap.size := fun b h => by omega); (try have hz1 : w.heap.size < w1.heap.size := by omega); (try have hz2 : w.heap.size + 1 < w1.heap.size := by omega); (try have hz3 : w.heap.size + 2 < w1.heap.size := by omega)))
      have hB1 : Below w.heap.size w w1 := by (repeat' (first | (with_reducible exact Below.refl _ _) | (with_reducible refine Below.alloc ?_ ?_ _) | (with_reducible refine Below.drew ?_) | (with_reducible refine below_drewN ?_ _) | (with_reducible refine Below.setCell ?_ ?_ _) | (with_reducible refine below_via ‹_› ?_ ?_) | (with_reducible refine below_grow ?_ ?_ _ _) | omega | (simp; done) | (simp; omega)))
      refine (c_clone_item v xs w1 (by first | (with_reducible assumption) | (with_reducible apply SlO.at; (with_reducible assumption); (repeat' (first | (with_reducible exact Below.refl _ _) | (with_reducible refine Below.alloc ?_ ?_ _) | (with_reducible refine Below.drew ?_) | (with_reducible refine below_drewN ?_ _) | (with_reducible refine Below.setCell ?_ ?_ _) | (with_reducible refine below_via ‹_› ?_ ?_) | (with_reducible refine below_grow ?_ ?_ _ _) | omega | (simp; done) | (simp; omega))); done) | (with_reducible apply SlA.at; (with_reducible assumption); (repeat' (first | (with_reducible exact Below.refl _ _) | (with_reducible refine Below.alloc ?_ ?_ _) | (with_reducible refine Below.drew ?_) | (with_reducible refine below_drewN ?_ _) | (with_reducible refine Below.setCell ?_ ?_ _) | (with_reducible refine below_via ‹_› ?_ ?_) | (with_reducible refine below_grow ?_ ?_ _ _) | omega | (simp; done) | (simp; omega))); done)) (by omega)).mono ?_
      rintro e w2 ⟨u, rfl, hb2, hown⟩
      have hz2 := hb2.size
      obtain ⟨i, hi⟩ : ∃ i, i = lowI ItemD.fKey c.toList xs := ⟨_, rfl⟩
      rw [← hi] at hl HR ⊢
      clear hi hc hf hz
      have hfm : ∃ g cap, u = .slice (some ⟨g, 0, none⟩) xs.length cap := by
        rcases hown.2 with ⟨_, h0⟩ | ⟨g, cap, cur, e, _⟩
        · omega
        · exact ⟨g, cap, e⟩
      obtain ⟨g, cap, rfl⟩ := hfm
      have cd := c_delete_item w1.heap.size g xs.length cap i xs w2 hown rfl hl
      rw [show ((i + 1 : Nat) : Int) = (i : Int) + 1 from rfl] at cd
      have hgb : w1.heap.size ≤ g := (own_cells hown rfl).1
      go_wp2_with fail
      refine cd.mono ?_
      rintro e w3 ⟨rfl, hS3, hK3⟩
      have hb3 : Below w1.heap.size w1 w3 := hb2.trans (hK3.below (by omega) (fun k hk => by omega))
      go_wp2_with fail
      go_ret2
      rw [HR.out.1, HR.out.2]
      exact ⟨_, rfl, hB1.trans (hb3.mono hB1.size), hS3.mono hB1.size⟩
theorem dropL_nil (c : List UInt8) : dropL [] c = [] := rfl
theorem dropL_t {xs : List ItemD} {c : List UInt8} {k : Nat} (h : k < xs.length) (hk : (xs[k].fKey.toList == c) = false) : dropL (xs.take (k + 1)) c = dropL (xs.take k) c ++ [xs[k]] := by
  have e : xs.take (k + 1) = xs.take k ++ [xs[k]] := by simp
  rw [e, dropL, List.filter_append]; simp [dropL, keptB, hk]
theorem dropL_f {xs : List ItemD} {c : List UInt8} {k : Nat} (h : k < xs.length) (hk : (xs[k].fKey.toList == c) = true) : dropL (xs.take (k + 1)) c = dropL (xs.take k) c := by
  have e : xs.take (k + 1) = xs.take k ++ [xs[k]] := by simp
  rw [e, dropL, List.filter_append]; simp [dropL, keptB, hk]
theorem dropL_le (xs : List ItemD) (c : List UInt8) (k : Nat) : (dropL (xs.take k) c).length ≤ xs.length := by
  have h1 : (dropL (xs.take k) c).length ≤ (xs.take k).length := List.length_filter_le _ _
  have h2 : (xs.take k).length ≤ xs.length := by simp; omega
  omega
set_option maxHeartbeats 2000000 in
theorem c_spec_DropItem (v : Value) (xs : List ItemD) (c : ByteArray) (w : World) (h : SlA w 0 2 encItem v xs) (hok : ∀ x ∈ xs, okItem x) (hcs : c.size ≤ maxLen) :
    Calls Try.prog 9 #[v, .string c] w (ItemsCode (drR xs c.toList) (drC xs c.toList) w) := by
  cases hq : itemsB xs
  · have HR := hid (show drR xs c.toList = [] ∧ drC xs c.toList = 1 by simp [drR, drC, hq])
    go_enter Try.func9, Try.ntmps9
    go_wp2_with (first | (go_at_call 45; refine (c_l24Ok _ _ _ (by first | (with_reducible assumption) | (with_reducible apply SlO.at; (with_reducible assumption); (repeat' (first | (with_reducible exact Below.refl _ _) | (with_reducible refine Below.alloc ?_ ?_ _) | (with_reducible refine Below.drew ?_) | (with_reducible refine below_drewN ?_ _) | (with_reducible refine Below.setCell ?_ ?_ _) | (with_reducible refine below_via ‹_› ?_ ?_) | (with_reducible refine below_grow ?_ ?_ _ _) | omega | (simp; done) | (simp; omega))); done) | (with_reducible apply SlA.at; (with_reducible assumption); (repeat' (first | (with_reducible exact Below.refl _ _) | (with_reducible refine Below.alloc ?_ ?_ _) | (with_reducible refine Below.drew ?_) | (with_reducible refine below_drewN ?_ _) | (with_reducible refine Below.setCell ?_ ?_ _) | (with_reducible refine below_via ‹_› ?_ ?_) | (with_reducible refine below_grow ?_ ?_ _ _) | omega | (simp; done) | (simp; omega))); done)) (by assumption)).mono ?_; rintro e w1 ⟨rfl, hb⟩; obtain ⟨hc, hf⟩ := bcell hb; have hz := hb.size; (try simp at hz); (try have hz0 : ∀ b, b < w.heap.size → b < w1.heap.size := fun b h => by omega); (try have hz1 : w.heap.size < w1.heap.size := by omega); (try have hz2 : w.heap.size + 1 < w1.heap.size := by omega); (try have hz3 : w.heap.size + 2 < w1.heap.size := by omega)))
    go_ret2
    rw [HR.out.2]
    exact itemsCode_none (by (repeat' (first | (with_reducible exact Below.refl _ _) | (with_reducible refine Below.alloc ?_ ?_ _) | (with_reducible refine Below.drew ?_) | (with_reducible refine below_drewN ?_ _) | (with_reducible refine Below.setCell ?_ ?_ _) | (with_reducible refine below_via ‹_› ?_ ?_) | (with_reducible refine below_grow ?_ ?_ _ _) | omega | (simp; done) | (simp; omega)))) HR.out.1
  · have hn40 : xs.length ≤ 40 := by simp only [itemsB, risesB, Bool.and_eq_true, decide_eq_true_eq] at hq; omega
    have HQ := hid hq
    obtain ⟨i0, hi0, iz0, iz1, iz2⟩ := info_parts info_Item
    obtain ⟨ad, cap, b, off, rfl, hm, had, hx⟩ := h.uni
    go_enter Try.func9, Try.ntmps9
    go_wp2_with (first | (go_at_call 45; refine (c_l24Ok _ _ _ (by first | (with_reducible assumption) | (with_reducible apply SlO.at; (with_reducible assumption); (repeat' (first | (with_reducible exact Below.refl _ _) | (with_reducible refine Below.alloc ?_ ?_ _) | (with_reducible refine Below.drew ?_) | (with_reducible refine below_drewN ?_ _) | (with_reducible refine Below.setCell ?_ ?_ _) | (with_reducible refine below_via ‹_› ?_ ?_) | (with_reducible refine below_grow ?_ ?_ _ _) | omega | (simp; done) | (simp; omega))); done) | (with_reducible apply SlA.at; (with_reducible assumption); (repeat' (first | (with_reducible exact Below.refl _ _) | (with_reducible refine Below.alloc ?_ ?_ _) | (with_reducible refine Below.drew ?_) | (with_reducible refine below_drewN ?_ _) | (with_reducible refine Below.setCell ?_ ?_ _) | (with_reducible refine below_via ‹_› ?_ ?_) | (with_reducible refine below_grow ?_ ?_ _ _) | omega | (simp; done) | (simp; omega))); done)) (by assumption)).mono ?_; rintro e w1 ⟨rfl, hb⟩; obtain ⟨hc, hf⟩ := bcell hb; have hz := hb.size; (try simp at hz); (try have hz0 : ∀ b, b < w.heap.size → b < w1.heap.size := fun b h => by omega); (try have hz1 : w.heap.size < w1.heap.size := by omega); (try have hz2 : w.heap.size + 1 < w1.heap.size := by omega); (try have hz3 : w.heap.size + 2 < w1.heap.size := by omega)))
    have hB1 : Below w.heap.size w w1 := by (repeat' (first | (with_reducible exact Below.refl _ _) | (with_reducible refine Below.alloc ?_ ?_ _) | (with_reducible refine Below.drew ?_) | (with_reducible refine below_drewN ?_ _) | (with_reducible refine Below.setCell ?_ ?_ _) | (with_reducible refine below_via ‹_› ?_ ?_) | (with_reducible refine below_grow ?_ ?_ _ _) | omega | (simp; done) | (simp; omega)))
    have hzw := hB1.size
    have A1 := Acc.lit (α := ItemD) (W := w1.alloc (.cells #[] 88)) (w0 := w1) (e := 88) (Below.refl _ _) 2 encItem
    obtain ⟨W, hW⟩ : ∃ W, W = w1.alloc (.cells #[] 88) := ⟨_, rfl⟩
    rw [← hW] at A1 ⊢
    have hBW : Below w.heap.size w W := by rw [hW]; exact hB1.alloc hzw _
    clear hW hc hf hz hb
    go_loopw [6, 7] (fun u i wr => ∃ k : Nat, k ≤ xs.length ∧ i = .int .i64 k ∧ Acc W w1.heap.size 88 2 encItem wr u (dropL (xs.take k) c.toList)) (fun _ i _ => xs.length - (intOf i).toNat)
    case atStart => exact ⟨0, Nat.zero_le _, rfl, A1⟩
    case round =>
      clear A1
      obtain ⟨k, hk, rfl, hA⟩ := hrel
      by_cases hlt : k < xs.length
      · have hlI : (k : Int) < xs.length := by omega
        obtain ⟨rfl, hbb, -, hcc, hmc⟩ := had (by omega)
        have hbW : b < W.heap.size := by have := hBW.size; omega
        have g0 := hA.cellAt hbW (by omega) (below_cell hBW hbb (hx k hlt 0 (by omega)))
        have g1 := hA.cellAt hbW (by omega) (below_cell hBW hbb (hx k hlt 1 (by omega)))
        simp only [encItem, List.getD_cons_zero, List.getD_cons_succ, Nat.add_zero] at g0 g1
        have hdl := dropL_le xs c.toList k
        have HA := hid hA
        have HX := hid hx
        clear hA hx
        cases hk2 : (xs[k].fKey.toList == c.toList)
        · have hk3 : (xs[k].fKey.toList != c.toList) = true := by simp [bne, hk2]
          have HT := hid (dropL_t hlt hk2)
          go_wp2_with (at_builtin; refine wpList_push (v := u6) rfl (.tmp 25) (.tmp 30) 24 rfl i0 _ 32 Try.underlying24 hi0 iz0 iz1 iz2 rfl (by decide) (fun _ => rfl) xs[k] rfl HA.out (Below.refl _ _) 88 1 rfl (one_encItem _) (by unfold maxLen; omega) (by omega) ?_; intro v1 w2 hA1)
          go_roundw
          case rel => exact ⟨k + 1, by omega, by go_num, by rw [HT.out]; exact hA1⟩
          case measure => simp [intOf]; omega
        · have hk3 : (xs[k].fKey.toList != c.toList) = false := by simp [bne, hk2]
          have HT := hid (dropL_f hlt hk2)
          go_wp2_with fail
          go_roundw
          case rel => exact ⟨k + 1, by omega, by go_num, by rw [HT.out]; exact HA.out⟩
          case measure => simp [intOf]; omega
      · have hkl : k = xs.length := by omega
        subst hkl
        rw [List.take_length] at hA
        have hlI : ¬ ((xs.length : Nat) : Int) < xs.length := by omega
        have hD := hA.done (fun _ => rfl) hBW hzw
        obtain ⟨adu, cpu, rfl⟩ := hD.2.1.form
        have HD := hid hD
        clear hD hA
        cases hh : hitB xs c.toList
        · have hle : (dropL xs c.toList).length = xs.length := (drop_len HQ.out).2 hh
          have HR := hid (show drR xs c.toList = [] ∧ drC xs c.toList = 3 by simp [drR, drC, HQ.out, hh])
          have hq2 : (((dropL xs c.toList).length : Int) == (xs.length : Int)) = true := by rw [hle]; simp
          clear hle
          go_wp2_with fail
          go_ret2
          rw [HR.out.2]
          exact itemsCode_none HD.out.1 HR.out.1
        · have hle : ¬ (dropL xs c.toList).length = xs.length := fun e => by rw [(drop_len HQ.out).1 e] at hh; cases hh
          have HR := hid (show drR xs c.toList = dropL xs c.toList ∧ drC xs c.toList = 0 by simp [drR, drC, HQ.out, hh])
          have hq2 : (((dropL xs c.toList).length : Int) == (xs.length : Int)) = false := by rw [beq_eq_false_iff_ne]; omega
          clear hle
          go_wp2_with fail
          go_ret2
          rw [HR.out.1, HR.out.2]
          exact ⟨_, rfl, HD.out.1, HD.out.2⟩
end Go.Proofs.Ytgdkaadlhpehlaa
