/- slices.Insert at Warning ahead of the end: a new row. UNDER WAY. -/
import Derived.Test.YtajlllpjgeoliaaWarnP
import Derived.Lib.AppendZerosOnto
import Derived.Shelf.Spec.SlicesInsert
namespace Go.Proofs.Ytajlllpjgeoliaa
open Go.RowKit Go.Sort
set_option linter.unusedVariables false
set_option maxRecDepth 100000

theorem own_cellsW {w : World} {base e g n cap : Nat} {xs : List WarningD} (h : w.ownsRow base e 8 (.slice (some ⟨g, 0, none⟩) n cap) n (xs.flatMap encWarning)) (hn : n = xs.length) :
    base ≤ g ∧ g < w.heap.size ∧ n ≤ cap ∧ cap ≤ maxLen ∧ (∀ j, w.frozen? ⟨g, j, none⟩ = false) ∧ ∀ j v, (xs.flatMap encWarning)[j]? = some v → w.cell? ⟨g, j, none⟩ = some v := by
  obtain ⟨h0, h⟩ := h
  rcases h with ⟨e, _⟩ | ⟨g', cap', cur, e, hg, hh, hc, hm, hs, ht⟩
  · cases e
  · simp only [Value.slice.injEq, Option.some.injEq, Addr.mk.injEq] at e
    obtain ⟨⟨rfl, -, -⟩, -, rfl⟩ := e
    have hlt := (Array.getElem?_eq_some_iff.1 hh).1
    refine ⟨hg, hlt, hc, hm, fun j => by simp [World.frozen?, hh], fun j v hj => ?_⟩
    have hl : (xs.flatMap encWarning).length = n * 8 := by rw [flat_len (n := 8) encWarning (fun _ => rfl), hn]
    have hj8 : j < n * 8 := by rw [← hl]; exact (List.getElem?_eq_some_iff.1 hj).1
    have hcur : j < cur.size := by rw [hs]; have := Nat.mul_le_mul_right 8 hc; omega
    rw [← ht] at hj
    rw [← hj]
    simp [World.cell?, hh, hcur, hj8, List.getElem?_take]
theorem size_setCellsW (g : Nat) : ∀ (vs : List Value) (o : Nat) (w : World), (w.setCells g o vs).heap.size = w.heap.size
  | [], _, _ => rfl
  | v :: r, o, w => (size_setCellsW g r (o + 1) (w.setCell ⟨g, o, none⟩ v)).trans (by simp [World.setCell])
theorem below_setCells {B g : Nat} (hg : B ≤ g) : ∀ (vs : List Value) (o : Nat) {a w : World}, B ≤ w.heap.size → Below B a w → Below B a (w.setCells g o vs)
  | [], _, _, _, _, h => h
  | v :: r, o, a, w, hw, h => below_setCells hg r (o + 1) (a := a) (w := w.setCell ⟨g, o, none⟩ v) (by simpa [World.setCell] using hw) (Below.setCell h hg v)
theorem slo_of_cellsW {w : World} {lo g cap m : Nat} {L : List WarningD} (hm : m = L.length) (hg : g < w.heap.size) (hlo : lo ≤ g) (hf : ∀ j, w.frozen? ⟨g, j, none⟩ = false) (hc : L.length ≤ cap) (hcm : cap ≤ maxLen) (h : ∀ q, q < L.length * 8 → w.cell? ⟨g, q, none⟩ = some ((L.flatMap encWarning).getD q undef)) : SlO w lo 8 encWarning (.slice (some ⟨g, 0, none⟩) m cap) L := by
  subst hm
  refine ⟨?_, fun b hb => by simp [Value.ownBlock] at hb; subst hb; exact ⟨hg, hlo, hf⟩⟩
  by_cases h0 : L.length = 0
  · have : L = [] := List.eq_nil_of_length_eq_zero h0
    subst this
    exact .inl ⟨_, cap, rfl, rfl, hcm⟩
  · refine .inr ⟨g, 0, cap, rfl, by omega, hc, hcm, hlo, hg, fun i hi j hj => ?_⟩
    have hq : i * 8 + j < L.length * 8 := by omega
    rw [Nat.zero_add, h _ hq, flat_get (n := 8) encWarning (fun _ => rfl) L i hi j hj]
/-- the new row, behind both copies -/
theorem mid_cells {H i n : Nat} {cs vs : List Value} {ROW : Array Value} {w W1 : World} (hvl : vs.length = 8) (hcl : cs.length = n * 8) (hi : i < n) (hRl : (n + 1) * 8 ≤ ROW.size) (hRc : ∀ j, j < i * 8 → ROW[j]? = cs[j]?)
    (hW1 : ∀ j, W1.cell? ⟨H, j, none⟩ = ROW[j]?) (q : Nat) (hq : q < (n + 1) * 8) :
    (((W1.setCells H (i * 8) vs).drew).setCells H ((i + 1) * 8) (cs.drop (i * 8))).cell? ⟨H, q, none⟩ = some ((cs.take (i * 8) ++ vs ++ cs.drop (i * 8)).getD q undef) := by
  have hsome : ∀ j, j < (n + 1) * 8 → (W1.cell? ⟨H, j, none⟩).isSome = true := fun j hj => by rw [hW1, Array.getElem?_eq_getElem (by omega)]; rfl
  have htl : (cs.take (i * 8)).length = i * 8 := by rw [List.length_take]; omega
  have hdl : (cs.drop (i * 8)).length = (n - i) * 8 := by rw [List.length_drop, hcl]; omega
  rw [List.getD_eq_getElem?_getD]
  by_cases h1 : q < i * 8
  · rw [World.cell?_setCells_out H _ _ _ _ (fun _ _ => .inl (by simp only; omega))]
    show (W1.setCells H (i * 8) vs).cell? ⟨H, q, none⟩ = _
    rw [World.cell?_setCells_out H _ _ _ _ (fun _ _ => .inl (by simp only; omega)), hW1, hRc q h1, List.append_assoc, List.getElem?_append_left (by omega), List.getElem?_take, if_pos h1]
    rw [List.getElem?_eq_getElem (by omega)]; rfl
  · by_cases h2 : q < (i + 1) * 8
    · obtain ⟨s, rfl⟩ : ∃ s, q = i * 8 + s := ⟨q - i * 8, by omega⟩
      rw [World.cell?_setCells_out H _ _ _ _ (fun _ _ => .inl (by simp only; omega))]
      show (W1.setCells H (i * 8) vs).cell? ⟨H, i * 8 + s, none⟩ = _
      have hs : s < vs.length := by omega
      rw [World.cell?_setCells_in H vs (i * 8) W1 (fun j hj => hsome _ (by omega)) s hs, List.append_assoc, List.getElem?_append_right (by omega), htl, Nat.add_sub_cancel_left, List.getElem?_append_left hs, List.getElem?_eq_getElem hs]; rfl
    · obtain ⟨s, rfl⟩ : ∃ s, q = (i + 1) * 8 + s := ⟨q - (i + 1) * 8, by omega⟩
      have hs : s < (cs.drop (i * 8)).length := by omega
      have hsome2 : ∀ j, j < (n + 1) * 8 → ((W1.setCells H (i * 8) vs).drew.cell? ⟨H, j, none⟩).isSome = true := fun j hj => isSome_setCells H vs (i * 8) W1 (fun t ht => hsome _ (by omega)) _ (hsome _ hj)
      rw [World.cell?_setCells_in H (cs.drop (i * 8)) ((i + 1) * 8) (W1.setCells H (i * 8) vs).drew (fun j hj => hsome2 _ (by omega)) s hs, List.getElem?_append_right (by rw [List.length_append]; omega), List.length_append, htl, hvl, show (i + 1) * 8 + s - (i * 8 + 8) = s by omega, List.getElem?_eq_getElem hs]; rfl
set_option maxHeartbeats 2000000 in
theorem c_insert_mid (base q i : Nat) (xs : List WarningD) (d : WarningD) (w : World) (hi : i < xs.length) (hbs : base < w.heap.size) (hown : w.ownsRow base 35 8 (.slice (some ⟨base, 0, none⟩) xs.length xs.length) xs.length (xs.flatMap encWarning)) (hq : q < w.heap.size) (hv : ∀ j, j < 8 → w.cell? ⟨q, j, none⟩ = some ((encWarning d).getD j undef)) (hl : xs.length ≤ 1048576) :
    Calls Try.prog 35 #[.slice (some ⟨base, 0, none⟩) xs.length xs.length, .int .i64 i, .slice (some ⟨q, 0, none⟩) 1 1] w (InsR base i xs d w) := by
  obtain ⟨i0, hi0, iz0, iz1, iz2⟩ := info_parts info_Warning
  obtain ⟨-, hbw, -, -, hfr, hcell⟩ := own_cellsW hown rfl
  obtain ⟨cs, hcs⟩ : ∃ cs, cs = xs.flatMap encWarning := ⟨_, rfl⟩
  obtain ⟨vs, hvs⟩ : ∃ vs, vs = encWarning d := ⟨_, rfl⟩
  have hvl : vs.length = 8 := by rw [hvs]; rfl
  rw [← hcs] at hcell
  rw [← hvs] at hv
  have hcl : cs.length = xs.length * 8 := by rw [hcs, flat_len (n := 8) encWarning (fun _ => rfl)]
  have h1c : ∀ u ∈ cs, u.oneCell' = true := by
    intro u hu
    rw [hcs] at hu
    obtain ⟨x, _, hx⟩ := List.mem_flatMap.1 hu
    exact one_encWarning x u hx
  have h1v : ∀ u ∈ vs, u.oneCell' = true := by rw [hvs]; exact one_encWarning d
  obtain ⟨n, hn⟩ : ∃ n, n = xs.length := ⟨_, rfl⟩
  rw [← hn] at hcl hi hl ⊢
  have hz2 : ¬ ((i : Int) = (n : Int)) := by omega
  have hkk : (n : Int) + 1 - (i : Int) = ((n + 1 - i : Nat) : Int) := by omega
  have hik : i + (n + 1 - i) = n + 1 := by omega
  have hold : (Builtin.firstCells i0.size i (.slice (some ⟨base, 0, none⟩) i n)).run Try.prog w.drew = .ok (cs.take (i * 8)).toArray w.drew := by
    rw [iz1]
    exact run_firstCells_some w.drew 8 i ⟨base, 0, none⟩ i n (cs.take (i * 8)) (by rw [List.length_take]; omega) (fun j v hj => by
      rw [Addr.add_lit, Nat.zero_add]
      rw [List.getElem?_take] at hj
      split at hj
      · exact hcell j v hj
      · cases hj)
  obtain ⟨G, ROW, hG, hGm, hRl, hRc, hrz⟩ : ∃ (G : Nat) (ROW : Array Value), n + 1 ≤ G ∧ G ≤ maxLen ∧ (n + 1) * 8 ≤ ROW.size ∧ (∀ j, j < i * 8 → ROW[j]? = cs[j]?) ∧
      ∀ ty, (Builtin.append_ #[29, 3] ty #[.slice (some ⟨base, 0, none⟩) i n, .int .i64 ((n : Int) + 1 - (i : Int))]).run Try.prog w = .ok (.slice (some ⟨w.heap.size, 0, none⟩) (n + 1) G) (w.drew.alloc (.cells ROW 35)) := by
    refine ⟨_, _, grownCap_ge w (n + 1) n 35, grownCap_le_maxLen w (n + 1) n _ (by unfold maxLen; omega), ?_, ?_, fun ty => by
      have h := Lib.run_append_grow_zeros w 29 3 ty 35 i0 _ .i64 .i64 Try.underlying29 Try.underlying3 hi0 iz0 (some ⟨base, 0, none⟩) i n (cs.take (i * 8)) hold (n + 1 - i) (by omega) (by omega) (by omega) (by omega) (by rw [iz2]; omega) (by rw [iz2, hik]; exact growslice_fits (by omega) (by omega))
      rw [hik] at h
      rw [hkk]
      exact h⟩
    · simp [Builtin.zeroCells, Value.cells]; omega
    · intro j hj
      rw [Array.append_assoc, Array.getElem?_append_left (by simp [hcl]; omega)]
      simp [hj]
  unfold maxLen at hGm
  obtain ⟨W1, hW1⟩ : ∃ W1, W1 = w.drew.alloc (.cells ROW 35) := ⟨_, rfl⟩
  rw [← hW1] at hrz
  have hN0 : ∀ j, W1.cell? ⟨w.heap.size, j, none⟩ = ROW[j]? := fun j => by rw [hW1, World.cell?_alloc_at (w := w.drew) ROW _ w.heap.size j rfl]
  have hN : ∀ j, j < (n + 1) * 8 → (W1.cell? ⟨w.heap.size, j, none⟩).isSome = true := fun j hj => by rw [hN0, Array.getElem?_eq_getElem (by omega)]; rfl
  have hNf : ∀ j, W1.frozen? ⟨w.heap.size, j, none⟩ = false := fun j => by rw [hW1]; exact World.frozen?_alloc_at (w := w.drew) ROW _ w.heap.size j rfl
  have hOb : ∀ j v, w.cell? ⟨base, j, none⟩ = some v → W1.cell? ⟨base, j, none⟩ = some v := fun j v h => by rw [hW1, World.cell?_alloc_past (w := w.drew) _ base j hbw]; exact h
  have hOv : ∀ j v, w.cell? ⟨q, j, none⟩ = some v → W1.cell? ⟨q, j, none⟩ = some v := fun j v h => by rw [hW1, World.cell?_alloc_past (w := w.drew) _ q j hq]; exact h
  have hcpA : ∀ (W : World), (∀ x, W.cell? x = W1.cell? x) → (∀ x, W.frozen? x = W1.frozen? x) → ∀ ty dc, (Builtin.copy_ #[29, 29] ty #[.slice (some ⟨w.heap.size, i * 8, none⟩) (n + 1 - i) dc, .slice (some ⟨q, 0, none⟩) 1 1]).run Try.prog W = .ok (goInt 1) (W.setCells w.heap.size (i * 8) vs) := fun W hWc hWf ty dc => by
    have hmin : Nat.min 1 (n + 1 - i) = 1 := Nat.min_eq_left (by omega)
    have h := run_copy_sz (P := Try.prog) W 29 29 ty 35 i0 8 w.heap.size (i * 8) (n + 1 - i) dc ⟨q, 0, none⟩ 1 1 vs Try.underlying29 hi0 iz1 (by rw [hmin, hvl])
      (fun j v hj => by
        have hj8 : j < 8 := by rw [← hvl]; exact (List.getElem?_eq_some_iff.1 hj).1
        rw [Addr.add_lit, hWc, Nat.zero_add]
        exact hOv _ v (by rw [hv j hj8, List.getD_eq_getElem?_getD, hj]; rfl))
      (fun j hj => by rw [hWc]; exact hN _ (by omega)) (fun j hj => by rw [hWf]; exact hNf _) h1v
    rw [hmin] at h
    exact h
  have hdl : (cs.drop (i * 8)).length = (n - i) * 8 := by rw [List.length_drop, hcl]; omega
  have hcpB : ∀ (W : World), (∀ x, W.cell? x = (W1.setCells w.heap.size (i * 8) vs).cell? x) → (∀ x, W.frozen? x = (W1.setCells w.heap.size (i * 8) vs).frozen? x) → ∀ ty dc sc, (Builtin.copy_ #[29, 29] ty #[.slice (some ⟨w.heap.size, (i + 1) * 8, none⟩) (n + 1 - (i + 1)) dc, .slice (some ⟨base, i * 8, none⟩) (n - i) sc]).run Try.prog W = .ok (goInt (n - i : Nat)) (W.setCells w.heap.size ((i + 1) * 8) (cs.drop (i * 8))) := fun W hWc hWf ty dc sc => by
    have hmin : Nat.min (n - i) (n + 1 - (i + 1)) = n - i := Nat.min_eq_left (by omega)
    have h := run_copy_sz (P := Try.prog) W 29 29 ty 35 i0 8 w.heap.size ((i + 1) * 8) (n + 1 - (i + 1)) dc ⟨base, i * 8, none⟩ (n - i) sc (cs.drop (i * 8)) Try.underlying29 hi0 iz1 (by rw [hmin, hdl])
      (fun j v hj => by
        rw [Addr.add_lit, hWc, World.cell?_setCells_out _ _ _ _ _ (fun h _ => absurd h (by simp only; omega))]
        exact hOb _ v (hcell _ v (by rwa [List.getElem?_drop] at hj)))
      (fun j hj => by rw [hWc]; exact isSome_setCells _ _ _ _ (fun t ht => hN _ (by omega)) _ (hN _ (by omega)))
      (fun j hj => by rw [hWf, World.frozen?_setCells]; exact hNf _) (fun v hv => h1c v (List.mem_of_mem_drop hv))
    rw [hmin] at h
    exact h
  subst hW1
  have hE1 : ∀ x, ((w.alloc (.cells ROW 35)).drew).cell? x = (w.drew.alloc (.cells ROW 35)).cell? x := fun x => rfl
  have hE2 : ∀ x, ((w.alloc (.cells ROW 35)).drew).frozen? x = (w.drew.alloc (.cells ROW 35)).frozen? x := fun x => rfl
  have hF1 : ∀ x, (((w.alloc (.cells ROW 35)).drew.setCells w.heap.size (i * 8) vs).drew).cell? x = ((w.drew.alloc (.cells ROW 35)).setCells w.heap.size (i * 8) vs).cell? x := fun x => rfl
  have hF2 : ∀ x, (((w.alloc (.cells ROW 35)).drew.setCells w.heap.size (i * 8) vs).drew).frozen? x = ((w.drew.alloc (.cells ROW 35)).setCells w.heap.size (i * 8) vs).frozen? x := fun x => rfl
  have hGi : ¬ (G = i) := by omega
  have hGim : ¬ (G = i + 1) := by omega
  have hci : ¬ (n = i) := by omega
  have hw1 : IntKind.i64.wrap ((i : Int) + 1) = (i : Int) + 1 := by rw [IntKind.wrap_i64]; omega
  have hb1 : (0 : Int) ≤ (i : Int) + 1 := by omega
  have hin : i ≤ n := by omega
  have htn : ((i : Int) + 1).toNat = i + 1 := by omega
  have hb3 : (i : Int) ≤ (n : Int) := by omega
  have mixed : Try.prog.follows Departure.mixedOrders = true := by kernel_rfl
  have HZ := hid hrz
  have HA := hid hcpA
  have HB := hid hcpB
  have HR := hid (And.intro hN0 (And.intro hNf (And.intro hRl (And.intro hRc (And.intro hcl (And.intro hvl (And.intro hvs (And.intro hcs hn))))))))
  clear hrz hcpA hcpB hcell hRl hRc hold hcs hown hfr hN0 hN hNf hOb hOv hv hvs h1c h1v hdl hcl hvl hkk hik hn
  go_enter Try.func35, Try.ntmps35
  go_wp2_with (first
    | (at_builtin; refine Lib.wpList_append_run _ rfl _ _ _ _ rfl _ _ rfl rfl _ _ (HZ.out _) ?_))
  rw [HA.out _ hE1 hE2]
  go_wp2_with fail
  go_region_law_o (refine step_copy_runI rfl _ _ 29 29 rfl (.slice (some ⟨w.heap.size, (i + 1) * 8, none⟩) (n + 1 - (i + 1)) (G - (i + 1))) (.slice (some ⟨base, i * 8, none⟩) (n - i) (n - i)) (by simp [Act.eval, Act.put]) (by simp [Act.eval, Act.put]) (HB.out _ hF1 hF2 3 (G - (i + 1)) (n - i)) ?_)
  go_wp2
  go_ret
  show InsR base i xs d w (Ending.returned (.slice (some ⟨w.heap.size, 0, none⟩) (n + 1) G)) _
  obtain ⟨hN0, hNf, hRl, hRc, hcl, hvl, hvs, hcs, hn⟩ := HR.out
  have hB1 : Below base w (w.drew.alloc (.cells ROW 35)) := by (repeat' (first | (with_reducible exact Below.refl _ _) | (with_reducible refine Below.alloc ?_ ?_ _) | (with_reducible refine Below.drew ?_) | (with_reducible refine below_drewN ?_ _) | (with_reducible refine Below.setCell ?_ ?_ _) | (with_reducible refine below_via ‹_› ?_ ?_) | (with_reducible refine below_grow ?_ ?_ _ _) | omega | (simp; done) | (simp; omega)))
  have hsz : base ≤ (w.drew.alloc (.cells ROW 35)).heap.size := by rw [World.size_alloc]; show base ≤ w.heap.size + 1; omega
  have hB2 : Below base w ((w.drew.alloc (.cells ROW 35)).setCells w.heap.size (i * 8) vs).drew := Below.drew (below_setCells (by omega) vs (i * 8) hsz hB1)
  have hgs : w.heap.size < (((w.drew.alloc (.cells ROW 35)).setCells w.heap.size (i * 8) vs).drew.setCells w.heap.size ((i + 1) * 8) (cs.drop (i * 8))).heap.size := by
    rw [size_setCellsW]; show w.heap.size < (World.setCells _ _ _ _).heap.size; rw [size_setCellsW, World.size_alloc]; show w.heap.size < w.heap.size + 1; omega
  have hLl : (xs.take i ++ [d] ++ xs.drop i).length = n + 1 := by simp; omega
  have hLf : (xs.take i ++ [d] ++ xs.drop i).flatMap encWarning = cs.take (i * 8) ++ vs ++ cs.drop (i * 8) := by
    have hxf : cs = (xs.take i).flatMap encWarning ++ (xs.drop i).flatMap encWarning := by rw [hcs, ← List.flatMap_append, List.take_append_drop]
    have htl : ((xs.take i).flatMap encWarning).length = i * 8 := by rw [flat_len (n := 8) encWarning (fun _ => rfl)]; simp; omega
    have e1 : cs.take (i * 8) = (xs.take i).flatMap encWarning := by rw [hxf, ← htl, List.take_left]
    have e2 : cs.drop (i * 8) = (xs.drop i).flatMap encWarning := by rw [hxf, ← htl, List.drop_left]
    rw [e1, e2, hvs, List.flatMap_append, List.flatMap_append]; simp
  refine ⟨_, rfl, below_setCells (by omega) _ _ (by show base ≤ (World.setCells _ _ _ _).heap.size; rw [size_setCellsW]; exact hsz) hB2, slo_of_cellsW hLl.symm hgs (by omega) (fun j => ?_) (by omega) (by unfold maxLen; omega) (fun q hq => ?_)⟩
  · rw [World.frozen?_setCells]; show (World.setCells _ _ _ _).frozen? _ = false; rw [World.frozen?_setCells]; exact hNf j
  · rw [hLl] at hq
    rw [hLf]
    exact mid_cells (W1 := w.drew.alloc (.cells ROW 35)) (w := w) hvl hcl hi hRl hRc hN0 q hq
end Go.Proofs.Ytajlllpjgeoliaa
