/- The colors that occur; both sides. -/
import Derived.Test.YtljipgjgjobaaaaLit
import Derived.StillTailTactics
import Derived.Laws.RangeString
namespace Go.Proofs.Ytljipgjgjobaaaa
open Go.RowKit Go.Sort
set_option maxRecDepth 100000

def chB (k : Nat) : UInt8 := match k with | 0 => 87 | 1 => 82 | 2 => 71 | _ => 89
def oneB (c : UInt8) : ByteArray := ⟨#[c]⟩
/-- a color occurs among the first n -/
def occ (xs : List SectorD) (c : UInt8) (n : Nat) : Bool := (xs.take n).any fun d => d.fColor.toList == [c]
theorem occ_zero (xs : List SectorD) (c : UInt8) : occ xs c 0 = false := rfl
theorem occ_succ {xs : List SectorD} {c : UInt8} {n : Nat} (h : n < xs.length) : occ xs c (n + 1) = (occ xs c n || (xs[n].fColor.toList == [c])) := by
  rw [occ, List.take_succ_eq_append_getElem h, List.any_append]; simp [occ]
theorem occ_mono {xs : List SectorD} {c : UInt8} {n m : Nat} (h : occ xs c n = true) (hnm : n ≤ m) : occ xs c m = true := by
  simp only [occ, List.any_eq_true] at h ⊢
  obtain ⟨x, hx, hc⟩ := h
  exact ⟨x, (List.take_prefix_take_left (by omega)).subset hx |> fun h => h, hc⟩
/-- the colors among the first k of the four -/
def colsL (xs : List SectorD) : Nat → List UInt8
  | 0 => []
  | k + 1 => if occ xs (chB k) xs.length then colsL xs k ++ [chB k] else colsL xs k
def colsB (xs : List SectorD) (k : Nat) : ByteArray := ⟨(colsL xs k).toArray⟩
def colR (xs : List SectorD) : ByteArray := if secB xs then colsB xs 4 else ⟨#[]⟩
theorem colsL_len (xs : List SectorD) : ∀ k, (colsL xs k).length ≤ k
  | 0 => by simp [colsL]
  | k + 1 => by have := colsL_len xs k; rw [colsL]; split <;> simp <;> omega
theorem occ_le {xs : List SectorD} {c : UInt8} {n : Nat} (h : n < xs.length) (h2 : occ xs c (n + 1) = false) : occ xs c n = false := by
  rw [occ_succ h] at h2; simp at h2; exact h2.1
/-- in the midst of the k-th color: the first j sectors looked at -/
def midL (xs : List SectorD) (k j : Nat) : List UInt8 := if occ xs (chB k) j then colsL xs k ++ [chB k] else colsL xs k
def midB (xs : List SectorD) (k j : Nat) : ByteArray := ⟨(midL xs k j).toArray⟩
theorem midB_zero (xs : List SectorD) (k : Nat) : midB xs k 0 = colsB xs k := rfl
theorem midB_full (xs : List SectorD) (k : Nat) : midB xs k xs.length = colsB xs (k + 1) := rfl
theorem midB_size (xs : List SectorD) (k j : Nat) (hk : k < 4) : (midB xs k j).size ≤ 4 := by
  show (midL xs k j).toArray.size ≤ 4
  have := colsL_len xs k
  unfold midL; split <;> simp <;> omega
theorem midB_same {xs : List SectorD} {k j : Nat} (h : occ xs (chB k) (j + 1) = occ xs (chB k) j) : midB xs k (j + 1) = midB xs k j := by unfold midB midL; rw [h]
theorem toList_inj' {a b : ByteArray} : a.toList = b.toList ↔ a = b := by
  constructor
  · intro e; cases a; cases b; rw [ByteArray.toList_eq, ByteArray.toList_eq] at e; simpa using e
  · intro e; rw [e]
theorem midB_add {xs : List SectorD} {k j : Nat} (h0 : occ xs (chB k) j = false) (h1 : occ xs (chB k) (j + 1) = true) : midB xs k (j + 1) = midB xs k j ++ ⟨#[chB k]⟩ := by
  unfold midB midL; rw [h0, h1]
  simp only [if_true, if_false, Bool.false_eq_true]
  apply toList_inj'.1
  rw [ByteArray.toList_eq, ByteArray.toList_eq]
  simp [ByteArray.data_append]
theorem colsL_mem (xs : List SectorD) : ∀ k c, c ∈ colsL xs k → ∃ i, i < k ∧ c = chB i
  | 0, c, h => by simp [colsL] at h
  | k + 1, c, h => by
    rw [colsL] at h
    split at h
    · rcases List.mem_append.1 h with h | h
      · obtain ⟨i, hi, e⟩ := colsL_mem xs k c h; exact ⟨i, by omega, e⟩
      · simp at h; exact ⟨k, by omega, h⟩
    · obtain ⟨i, hi, e⟩ := colsL_mem xs k c h; exact ⟨i, by omega, e⟩
theorem chB_inj {i k : Nat} (hi : i < k) (hk : k < 4) : chB i ≠ chB k := by
  have : (i = 0 ∨ i = 1 ∨ i = 2) ∧ (k = 1 ∨ k = 2 ∨ k = 3) := by omega
  rcases this with ⟨rfl | rfl | rfl, rfl | rfl | rfl⟩ <;> first | omega | decide
theorem idx_mem : ∀ (l : List UInt8) (c : UInt8), decide (0 ≤ Lib.indexByte l c) = l.contains c
  | [], c => by simp [Lib.indexByte]
  | x :: l, c => by
    have ih := idx_mem l c
    by_cases e : x = c
    · subst e; simp [Lib.indexByte]
    · rw [List.contains_cons, ← ih, show (c == x) = false by simpa using fun h => e h.symm, Bool.false_or]
      have hx : (x == c) = false := by simpa using e
      have hge := Lib.indexByte_ge l c
      have hval : Lib.indexByte (x :: l) c = if (Lib.indexByte l c == -1) = true then -1 else Lib.indexByte l c + 1 := by rw [Lib.indexByte, hx]; rfl
      rw [hval]
      by_cases hi : Lib.indexByte l c = -1
      · rw [hi]; rfl
      · rw [show (Lib.indexByte l c == -1) = false by simpa using hi]
        simp only [Bool.false_eq_true, if_false]
        rw [Bool.eq_iff_iff]; simp only [decide_eq_true_eq]; omega
theorem mid_has (xs : List SectorD) (k j : Nat) (hk : k < 4) : decide (0 ≤ Lib.indexByte (midB xs k j).data.toList (chB k)) = occ xs (chB k) j := by
  rw [idx_mem]
  show (midL xs k j).contains (chB k) = _
  have hno : (colsL xs k).contains (chB k) = false := by
    cases h : (colsL xs k).contains (chB k)
    · rfl
    · obtain ⟨i, hi, e⟩ := colsL_mem xs k _ (by simpa using h)
      exact absurd e.symm (chB_inj hi hk)
  unfold midL
  cases h : occ xs (chB k) j
  · simpa using hno
  · simp
/-! ### a range over a string whose iterator is not the last block -/
def setIter (w : World) (g : Nat) (o : Obj) : World := { w with heap := w.heap.setIfInBounds g o }
theorem setIter_heap {w : World} {g : Nat} {o : Obj} (hg : g < w.heap.size) : (setIter w g o).heap[g]? = some o := by simp [setIter, hg]
theorem setIter_other {w : World} {g k : Nat} {o : Obj} (hne : k ≠ g) : (setIter w g o).heap[k]? = w.heap[k]? := by
  simp only [setIter, Array.getElem?_setIfInBounds]; rw [if_neg (fun e => hne e.symm)]
theorem setIter_size (w : World) (g : Nat) (o : Obj) : (setIter w g o).heap.size = w.heap.size := by simp [setIter]
theorem setIter_below {B : Nat} {w0 w : World} {g : Nat} {o : Obj} (h : Below B w0 w) (hg : B ≤ g) : Below B w0 (setIter w g o) :=
  ⟨h.os, h.tape, h.output, by rw [setIter_size]; exact h.size, fun k hk => by rw [setIter_other (by omega)]; exact h.block k hk⟩
theorem run_next_at {P : Program} (w : World) (g : Nat) (s : ByteArray) (pos : Nat) (ty : TypeId) (hg : w.heap[g]? = some (.stringIter s pos)) (h : pos < s.size) (ha : (s[pos]'h).toNat < 128) :
    (Instr.next (.pointer (some ⟨g, 0, none⟩)) true ty).run P w = .ok (.tuple #[.bool true, .int .i64 pos, .int .i32 (s[pos]'h).toNat]) (setIter w g (.stringIter s (pos + 1))) := by
  simp only [Instr.next, getObj, setObj, Sem.run_bind, Sem.run, hg, Result.andThen, h, if_true, decode_ascii s pos h ha]
  simp [goInt, Sem.run, hg, setIter]
theorem run_next_at_end {P : Program} (w : World) (g : Nat) (s : ByteArray) (pos : Nat) (ty : TypeId) (hg : w.heap[g]? = some (.stringIter s pos)) (h : ¬ pos < s.size) :
    (Instr.next (.pointer (some ⟨g, 0, none⟩)) true ty).run P w = .ok (.tuple #[.bool false]) w := by
  simp [Instr.next, getObj, Sem.run, hg, h]
set_option maxHeartbeats 4000000 in
theorem c_colorsOf (v : Value) (xs : List SectorD) (w : World) (h : SlA w 0 3 encSector v xs) (hl : xs.length ≤ 12) :
    Calls Try.prog 46 #[v] w fun e w' => e = .returned (.string (colsB xs 4)) ∧ Below w.heap.size w w' := by
  obtain ⟨ad, cap, b, off, rfl, hm, had, hx⟩ := h.uni
  go_enter Try.func46, Try.ntmps46
  go_wp2
  refine wp_loop_rounds 5 ?_
  obtain ⟨W0, hW0⟩ : ∃ z, z = w.iter ⟨#[87, 82, 71, 89]⟩ 0 := ⟨_, rfl⟩
  rw [← hW0]
  have hit0 : W0.heap[w.heap.size]? = some (.stringIter ⟨#[87, 82, 71, 89]⟩ 0) := by rw [hW0]; exact World.iter_heap _ _ _
  have hB0 : Below w.heap.size w W0 := by rw [hW0]; unfold World.iter; (repeat' (first | (with_reducible exact Below.refl _ _) | (with_reducible refine Below.alloc ?_ ?_ _) | (with_reducible refine Below.drew ?_) | (with_reducible refine below_drewN ?_ _) | (with_reducible refine Below.setCell ?_ ?_ _) | (with_reducible refine below_via ‹_› ?_ ?_) | (with_reducible refine below_grow ?_ ?_ _ _) | omega | (simp; done) | (simp; omega)))
  have hz0 : w.heap.size < W0.heap.size := by rw [hW0]; unfold World.iter; simp
  clear hW0
  rw [rounds_succ]
  have hnx0 := fun ty => run_next_at (P := Try.prog) W0 w.heap.size ⟨#[87, 82, 71, 89]⟩ 0 ty hit0 (by decide) (by decide)
  have e0 := hid (midB_zero xs 0)
  have hex0 : (ByteArray.mk #[87, 82, 71, 89]).extract 0 1 = ⟨#[87]⟩ := by rfl
  have htl0 : (ByteArray.mk #[87]).toList = [87] := by rw [ByteArray.toList_eq]
  go_wp2
  obtain ⟨V0, hV0⟩ : ∃ z, z = setIter W0 w.heap.size (.stringIter ⟨#[87, 82, 71, 89]⟩ 1) := ⟨_, rfl⟩
  rw [← hV0]
  have hitV0 := hid (show V0.heap[w.heap.size]? = some (.stringIter ⟨#[87, 82, 71, 89]⟩ 1) by rw [hV0]; exact setIter_heap (by omega))
  have hBV0 : Below w.heap.size w V0 := by rw [hV0]; exact setIter_below hB0 (Nat.le_refl _)
  have hzV0 : w.heap.size < V0.heap.size := by rw [hV0, setIter_size]; omega
  clear hnx0 hV0 hit0 hB0
  rw [show Value.string (⟨#[]⟩) = Value.string (midB xs 0 0) from rfl]
  go_loopw [3, 14] (fun q i wr => ∃ j : Nat, j ≤ xs.length ∧ i = .int .i64 j ∧ q = .string (midB xs 0 j) ∧ Below V0.heap.size V0 wr) (fun _ i _ => xs.length - (intOf i).toNat)
  case atStart => exact ⟨0, Nat.zero_le _, rfl, rfl, Below.refl _ _⟩
  case round =>
    obtain ⟨j, hj, rfl, rfl, hBr⟩ := hrel
    have hzr := hBr.size
    have hB : Below w.heap.size w wr := hBV0.trans (hBr.mono (by omega))
    have hBr2 := hBr
    by_cases hlt : j < xs.length
    · have hlI : (j : Int) < xs.length := by omega
      obtain ⟨rfl, hbb, -, hcc, hmc⟩ := had (by omega)
      have g0 := below_cell hB hbb (hx j hlt 0 (by omega))
      have g1 := below_cell hB hbb (hx j hlt 1 (by omega))
      have g2 := below_cell hB hbb (hx j hlt 2 (by omega))
      simp only [encSector, List.getD_cons_zero, List.getD_cons_succ, Nat.add_zero] at g0 g1 g2
      have HOS := hid (occ_succ (c := 87) hlt)
      have hsz := midB_size xs 0 j (by omega)
      have cc := fun wq => Try.strings_Contains_one (midB xs 0 j) 87 wq
      have hmh := mid_has xs 0 j (by omega)
      rw [show chB 0 = 87 from rfl] at hmh
      rw [hmh] at cc
      have HX := hid hx
      have HADD := hid (fun h0 h1 => midB_add (xs := xs) (k := 0) (j := j) h0 h1)
      have HSAM := hid (fun h => midB_same (xs := xs) (k := 0) (j := j) h)
      rw [show chB 0 = 87 from rfl] at HADD HSAM
      clear hmh hx
      cases hq : (xs[j].fColor.toList == [87])
      · have HQ := hid hq
        go_wp2
        go_roundw
        case rel => exact ⟨j + 1, by omega, by go_num, by rw [HSAM.out (by rw [HOS.out, HQ.out, Bool.or_false])], by (repeat' (first | (with_reducible exact Below.refl _ _) | (with_reducible refine Below.alloc ?_ ?_ _) | (with_reducible refine Below.drew ?_) | (with_reducible refine below_drewN ?_ _) | (with_reducible refine Below.setCell ?_ ?_ _) | (with_reducible refine below_via ‹_› ?_ ?_) | (with_reducible refine below_grow ?_ ?_ _ _) | omega | (simp; done) | (simp; omega)))⟩
        case measure => simp [intOf]; omega
      · have HQ := hid hq
        cases ho : occ xs 87 j
        · have HO := hid ho
          rw [ho] at cc
          go_wp2_with (go_at_call 59; refine (cc _).mono ?_; rintro e w' ⟨rfl, rfl⟩)
          go_roundw
          case rel => exact ⟨j + 1, by omega, by go_num, by rw [HADD.out HO.out (by rw [HOS.out, HQ.out, Bool.or_true])], by (repeat' (first | (with_reducible exact Below.refl _ _) | (with_reducible refine Below.alloc ?_ ?_ _) | (with_reducible refine Below.drew ?_) | (with_reducible refine below_drewN ?_ _) | (with_reducible refine Below.setCell ?_ ?_ _) | (with_reducible refine below_via ‹_› ?_ ?_) | (with_reducible refine below_grow ?_ ?_ _ _) | omega | (simp; done) | (simp; omega)))⟩
          case measure => simp [intOf]; omega
        · have HO := hid ho
          rw [ho] at cc
          go_wp2_with (go_at_call 59; refine (cc _).mono ?_; rintro e w' ⟨rfl, rfl⟩)
          go_roundw
          case rel => exact ⟨j + 1, by omega, by go_num, by rw [HSAM.out (by rw [HOS.out, HQ.out, HO.out]; rfl)], by (repeat' (first | (with_reducible exact Below.refl _ _) | (with_reducible refine Below.alloc ?_ ?_ _) | (with_reducible refine Below.drew ?_) | (with_reducible refine below_drewN ?_ _) | (with_reducible refine Below.setCell ?_ ?_ _) | (with_reducible refine below_via ‹_› ?_ ?_) | (with_reducible refine below_grow ?_ ?_ _ _) | omega | (simp; done) | (simp; omega)))⟩
          case measure => simp [intOf]; omega
    · have e : j = xs.length := by omega
      subst e
      obtain ⟨W1, hW1⟩ : ∃ z, z = wr := ⟨_, rfl⟩
      have hit1 : W1.heap[w.heap.size]? = some (.stringIter ⟨#[87, 82, 71, 89]⟩ 1) := by rw [hW1, hBr.block _ hzV0]; exact hitV0.out
      have hB1 : Below w.heap.size w W1 := by rw [hW1]; exact hB
      have hz1 : w.heap.size < W1.heap.size := by rw [hW1]; omega
      clear hBr hB hBr2
      rw [midB_full]
      go_wp2
      rw [← hW1]
      clear hW1 hlt hzr
      rw [rounds_succ]
      have hnx1 := fun ty => run_next_at (P := Try.prog) W1 w.heap.size ⟨#[87, 82, 71, 89]⟩ 1 ty hit1 (by decide) (by decide)
      have e1 := hid (midB_zero xs 1)
      have hex1 : (ByteArray.mk #[87, 82, 71, 89]).extract 1 2 = ⟨#[82]⟩ := by rfl
      have htl1 : (ByteArray.mk #[82]).toList = [82] := by rw [ByteArray.toList_eq]
      go_wp2
      obtain ⟨V1, hV1⟩ : ∃ z, z = setIter W1 w.heap.size (.stringIter ⟨#[87, 82, 71, 89]⟩ 2) := ⟨_, rfl⟩
      rw [← hV1]
      have hitV1 := hid (show V1.heap[w.heap.size]? = some (.stringIter ⟨#[87, 82, 71, 89]⟩ 2) by rw [hV1]; exact setIter_heap (by omega))
      have hBV1 : Below w.heap.size w V1 := by rw [hV1]; exact setIter_below hB1 (Nat.le_refl _)
      have hzV1 : w.heap.size < V1.heap.size := by rw [hV1, setIter_size]; omega
      clear hnx1 hV1 hit1 hB1
      rw [show Value.string ((colsB xs 1)) = Value.string (midB xs 1 0) from rfl]
      go_loopw [3, 14] (fun q i wr => ∃ j : Nat, j ≤ xs.length ∧ i = .int .i64 j ∧ q = .string (midB xs 1 j) ∧ Below V1.heap.size V1 wr) (fun _ i _ => xs.length - (intOf i).toNat)
      case atStart => exact ⟨0, Nat.zero_le _, rfl, rfl, Below.refl _ _⟩
      case round =>
        obtain ⟨j, hj, rfl, rfl, hBr⟩ := hrel
        have hzr := hBr.size
        have hB : Below w.heap.size w wr := hBV1.trans (hBr.mono (by omega))
        have hBr2 := hBr
        by_cases hlt : j < xs.length
        · have hlI : (j : Int) < xs.length := by omega
          obtain ⟨rfl, hbb, -, hcc, hmc⟩ := had (by omega)
          have g0 := below_cell hB hbb (hx j hlt 0 (by omega))
          have g1 := below_cell hB hbb (hx j hlt 1 (by omega))
          have g2 := below_cell hB hbb (hx j hlt 2 (by omega))
          simp only [encSector, List.getD_cons_zero, List.getD_cons_succ, Nat.add_zero] at g0 g1 g2
          have HOS := hid (occ_succ (c := 82) hlt)
          have hsz := midB_size xs 1 j (by omega)
          have cc := fun wq => Try.strings_Contains_one (midB xs 1 j) 82 wq
          have hmh := mid_has xs 1 j (by omega)
          rw [show chB 1 = 82 from rfl] at hmh
          rw [hmh] at cc
          have HX := hid hx
          have HADD := hid (fun h0 h1 => midB_add (xs := xs) (k := 1) (j := j) h0 h1)
          have HSAM := hid (fun h => midB_same (xs := xs) (k := 1) (j := j) h)
          rw [show chB 1 = 82 from rfl] at HADD HSAM
          clear hmh hx
          cases hq : (xs[j].fColor.toList == [82])
          · have HQ := hid hq
            go_wp2
            go_roundw
            case rel => exact ⟨j + 1, by omega, by go_num, by rw [HSAM.out (by rw [HOS.out, HQ.out, Bool.or_false])], by (repeat' (first | (with_reducible exact Below.refl _ _) | (with_reducible refine Below.alloc ?_ ?_ _) | (with_reducible refine Below.drew ?_) | (with_reducible refine below_drewN ?_ _) | (with_reducible refine Below.setCell ?_ ?_ _) | (with_reducible refine below_via ‹_› ?_ ?_) | (with_reducible refine below_grow ?_ ?_ _ _) | omega | (simp; done) | (simp; omega)))⟩
            case measure => simp [intOf]; omega
          · have HQ := hid hq
            cases ho : occ xs 82 j
            · have HO := hid ho
              rw [ho] at cc
              go_wp2_with (go_at_call 59; refine (cc _).mono ?_; rintro e w' ⟨rfl, rfl⟩)
              go_roundw
              case rel => exact ⟨j + 1, by omega, by go_num, by rw [HADD.out HO.out (by rw [HOS.out, HQ.out, Bool.or_true])], by (repeat' (first | (with_reducible exact Below.refl _ _) | (with_reducible refine Below.alloc ?_ ?_ _) | (with_reducible refine Below.drew ?_) | (with_reducible refine below_drewN ?_ _) | (with_reducible refine Below.setCell ?_ ?_ _) | (with_reducible refine below_via ‹_› ?_ ?_) | (with_reducible refine below_grow ?_ ?_ _ _) | omega | (simp; done) | (simp; omega)))⟩
              case measure => simp [intOf]; omega
            · have HO := hid ho
              rw [ho] at cc
              go_wp2_with (go_at_call 59; refine (cc _).mono ?_; rintro e w' ⟨rfl, rfl⟩)
              go_roundw
              case rel => exact ⟨j + 1, by omega, by go_num, by rw [HSAM.out (by rw [HOS.out, HQ.out, HO.out]; rfl)], by (repeat' (first | (with_reducible exact Below.refl _ _) | (with_reducible refine Below.alloc ?_ ?_ _) | (with_reducible refine Below.drew ?_) | (with_reducible refine below_drewN ?_ _) | (with_reducible refine Below.setCell ?_ ?_ _) | (with_reducible refine below_via ‹_› ?_ ?_) | (with_reducible refine below_grow ?_ ?_ _ _) | omega | (simp; done) | (simp; omega)))⟩
              case measure => simp [intOf]; omega
        · have e : j = xs.length := by omega
          subst e
          obtain ⟨W2, hW2⟩ : ∃ z, z = wr := ⟨_, rfl⟩
          have hit2 : W2.heap[w.heap.size]? = some (.stringIter ⟨#[87, 82, 71, 89]⟩ 2) := by rw [hW2, hBr.block _ hzV1]; exact hitV1.out
          have hB2 : Below w.heap.size w W2 := by rw [hW2]; exact hB
          have hz2 : w.heap.size < W2.heap.size := by rw [hW2]; omega
          clear hBr hB hBr2
          rw [midB_full]
          go_wp2
          rw [← hW2]
          clear hW2 hlt hzr
          rw [rounds_succ]
          have hnx2 := fun ty => run_next_at (P := Try.prog) W2 w.heap.size ⟨#[87, 82, 71, 89]⟩ 2 ty hit2 (by decide) (by decide)
          have e2 := hid (midB_zero xs 2)
          have hex2 : (ByteArray.mk #[87, 82, 71, 89]).extract 2 3 = ⟨#[71]⟩ := by rfl
          have htl2 : (ByteArray.mk #[71]).toList = [71] := by rw [ByteArray.toList_eq]
          go_wp2
          obtain ⟨V2, hV2⟩ : ∃ z, z = setIter W2 w.heap.size (.stringIter ⟨#[87, 82, 71, 89]⟩ 3) := ⟨_, rfl⟩
          rw [← hV2]
          have hitV2 := hid (show V2.heap[w.heap.size]? = some (.stringIter ⟨#[87, 82, 71, 89]⟩ 3) by rw [hV2]; exact setIter_heap (by omega))
          have hBV2 : Below w.heap.size w V2 := by rw [hV2]; exact setIter_below hB2 (Nat.le_refl _)
          have hzV2 : w.heap.size < V2.heap.size := by rw [hV2, setIter_size]; omega
          clear hnx2 hV2 hit2 hB2
          rw [show Value.string ((colsB xs 2)) = Value.string (midB xs 2 0) from rfl]
          go_loopw [3, 14] (fun q i wr => ∃ j : Nat, j ≤ xs.length ∧ i = .int .i64 j ∧ q = .string (midB xs 2 j) ∧ Below V2.heap.size V2 wr) (fun _ i _ => xs.length - (intOf i).toNat)
          case atStart => exact ⟨0, Nat.zero_le _, rfl, rfl, Below.refl _ _⟩
          case round =>
            obtain ⟨j, hj, rfl, rfl, hBr⟩ := hrel
            have hzr := hBr.size
            have hB : Below w.heap.size w wr := hBV2.trans (hBr.mono (by omega))
            have hBr2 := hBr
            by_cases hlt : j < xs.length
            · have hlI : (j : Int) < xs.length := by omega
              obtain ⟨rfl, hbb, -, hcc, hmc⟩ := had (by omega)
              have g0 := below_cell hB hbb (hx j hlt 0 (by omega))
              have g1 := below_cell hB hbb (hx j hlt 1 (by omega))
              have g2 := below_cell hB hbb (hx j hlt 2 (by omega))
              simp only [encSector, List.getD_cons_zero, List.getD_cons_succ, Nat.add_zero] at g0 g1 g2
              have HOS := hid (occ_succ (c := 71) hlt)
              have hsz := midB_size xs 2 j (by omega)
              have cc := fun wq => Try.strings_Contains_one (midB xs 2 j) 71 wq
              have hmh := mid_has xs 2 j (by omega)
              rw [show chB 2 = 71 from rfl] at hmh
              rw [hmh] at cc
              have HX := hid hx
              have HADD := hid (fun h0 h1 => midB_add (xs := xs) (k := 2) (j := j) h0 h1)
              have HSAM := hid (fun h => midB_same (xs := xs) (k := 2) (j := j) h)
              rw [show chB 2 = 71 from rfl] at HADD HSAM
              clear hmh hx
              cases hq : (xs[j].fColor.toList == [71])
              · have HQ := hid hq
                go_wp2
                go_roundw
                case rel => exact ⟨j + 1, by omega, by go_num, by rw [HSAM.out (by rw [HOS.out, HQ.out, Bool.or_false])], by (repeat' (first | (with_reducible exact Below.refl _ _) | (with_reducible refine Below.alloc ?_ ?_ _) | (with_reducible refine Below.drew ?_) | (with_reducible refine below_drewN ?_ _) | (with_reducible refine Below.setCell ?_ ?_ _) | (with_reducible refine below_via ‹_› ?_ ?_) | (with_reducible refine below_grow ?_ ?_ _ _) | omega | (simp; done) | (simp; omega)))⟩
                case measure => simp [intOf]; omega
              · have HQ := hid hq
                cases ho : occ xs 71 j
                · have HO := hid ho
                  rw [ho] at cc
                  go_wp2_with (go_at_call 59; refine (cc _).mono ?_; rintro e w' ⟨rfl, rfl⟩)
                  go_roundw
                  case rel => exact ⟨j + 1, by omega, by go_num, by rw [HADD.out HO.out (by rw [HOS.out, HQ.out, Bool.or_true])], by (repeat' (first | (with_reducible exact Below.refl _ _) | (with_reducible refine Below.alloc ?_ ?_ _) | (with_reducible refine Below.drew ?_) | (with_reducible refine below_drewN ?_ _) | (with_reducible refine Below.setCell ?_ ?_ _) | (with_reducible refine below_via ‹_› ?_ ?_) | (with_reducible refine below_grow ?_ ?_ _ _) | omega | (simp; done) | (simp; omega)))⟩
                  case measure => simp [intOf]; omega
                · have HO := hid ho
                  rw [ho] at cc
                  go_wp2_with (go_at_call 59; refine (cc _).mono ?_; rintro e w' ⟨rfl, rfl⟩)
                  go_roundw
                  case rel => exact ⟨j + 1, by omega, by go_num, by rw [HSAM.out (by rw [HOS.out, HQ.out, HO.out]; rfl)], by (repeat' (first | (with_reducible exact Below.refl _ _) | (with_reducible refine Below.alloc ?_ ?_ _) | (with_reducible refine Below.drew ?_) | (with_reducible refine below_drewN ?_ _) | (with_reducible refine Below.setCell ?_ ?_ _) | (with_reducible refine below_via ‹_› ?_ ?_) | (with_reducible refine below_grow ?_ ?_ _ _) | omega | (simp; done) | (simp; omega)))⟩
                  case measure => simp [intOf]; omega
            · have e : j = xs.length := by omega
              subst e
              obtain ⟨W3, hW3⟩ : ∃ z, z = wr := ⟨_, rfl⟩
              have hit3 : W3.heap[w.heap.size]? = some (.stringIter ⟨#[87, 82, 71, 89]⟩ 3) := by rw [hW3, hBr.block _ hzV2]; exact hitV2.out
              have hB3 : Below w.heap.size w W3 := by rw [hW3]; exact hB
              have hz3 : w.heap.size < W3.heap.size := by rw [hW3]; omega
              clear hBr hB hBr2
              rw [midB_full]
              go_wp2
              rw [← hW3]
              clear hW3 hlt hzr
              rw [rounds_succ]
              have hnx3 := fun ty => run_next_at (P := Try.prog) W3 w.heap.size ⟨#[87, 82, 71, 89]⟩ 3 ty hit3 (by decide) (by decide)
              have e3 := hid (midB_zero xs 3)
              have hex3 : (ByteArray.mk #[87, 82, 71, 89]).extract 3 4 = ⟨#[89]⟩ := by rfl
              have htl3 : (ByteArray.mk #[89]).toList = [89] := by rw [ByteArray.toList_eq]
              go_wp2
              obtain ⟨V3, hV3⟩ : ∃ z, z = setIter W3 w.heap.size (.stringIter ⟨#[87, 82, 71, 89]⟩ 4) := ⟨_, rfl⟩
              rw [← hV3]
              have hitV3 := hid (show V3.heap[w.heap.size]? = some (.stringIter ⟨#[87, 82, 71, 89]⟩ 4) by rw [hV3]; exact setIter_heap (by omega))
              have hBV3 : Below w.heap.size w V3 := by rw [hV3]; exact setIter_below hB3 (Nat.le_refl _)
              have hzV3 : w.heap.size < V3.heap.size := by rw [hV3, setIter_size]; omega
              clear hnx3 hV3 hit3 hB3
              rw [show Value.string ((colsB xs 3)) = Value.string (midB xs 3 0) from rfl]
              go_loopw [3, 14] (fun q i wr => ∃ j : Nat, j ≤ xs.length ∧ i = .int .i64 j ∧ q = .string (midB xs 3 j) ∧ Below V3.heap.size V3 wr) (fun _ i _ => xs.length - (intOf i).toNat)
              case atStart => exact ⟨0, Nat.zero_le _, rfl, rfl, Below.refl _ _⟩
              case round =>
                obtain ⟨j, hj, rfl, rfl, hBr⟩ := hrel
                have hzr := hBr.size
                have hB : Below w.heap.size w wr := hBV3.trans (hBr.mono (by omega))
                have hBr2 := hBr
                by_cases hlt : j < xs.length
                · have hlI : (j : Int) < xs.length := by omega
                  obtain ⟨rfl, hbb, -, hcc, hmc⟩ := had (by omega)
                  have g0 := below_cell hB hbb (hx j hlt 0 (by omega))
                  have g1 := below_cell hB hbb (hx j hlt 1 (by omega))
                  have g2 := below_cell hB hbb (hx j hlt 2 (by omega))
                  simp only [encSector, List.getD_cons_zero, List.getD_cons_succ, Nat.add_zero] at g0 g1 g2
                  have HOS := hid (occ_succ (c := 89) hlt)
                  have hsz := midB_size xs 3 j (by omega)
                  have cc := fun wq => Try.strings_Contains_one (midB xs 3 j) 89 wq
                  have hmh := mid_has xs 3 j (by omega)
                  rw [show chB 3 = 89 from rfl] at hmh
                  rw [hmh] at cc
                  have HX := hid hx
                  have HADD := hid (fun h0 h1 => midB_add (xs := xs) (k := 3) (j := j) h0 h1)
                  have HSAM := hid (fun h => midB_same (xs := xs) (k := 3) (j := j) h)
                  rw [show chB 3 = 89 from rfl] at HADD HSAM
                  clear hmh hx
                  cases hq : (xs[j].fColor.toList == [89])
                  · have HQ := hid hq
                    go_wp2
                    go_roundw
                    case rel => exact ⟨j + 1, by omega, by go_num, by rw [HSAM.out (by rw [HOS.out, HQ.out, Bool.or_false])], by (repeat' (first | (with_reducible exact Below.refl _ _) | (with_reducible refine Below.alloc ?_ ?_ _) | (with_reducible refine Below.drew ?_) | (with_reducible refine below_drewN ?_ _) | (with_reducible refine Below.setCell ?_ ?_ _) | (with_reducible refine below_via ‹_› ?_ ?_) | (with_reducible refine below_grow ?_ ?_ _ _) | omega | (simp; done) | (simp; omega)))⟩
                    case measure => simp [intOf]; omega
                  · have HQ := hid hq
                    cases ho : occ xs 89 j
                    · have HO := hid ho
                      rw [ho] at cc
                      go_wp2_with (go_at_call 59; refine (cc _).mono ?_; rintro e w' ⟨rfl, rfl⟩)
                      go_roundw
                      case rel => exact ⟨j + 1, by omega, by go_num, by rw [HADD.out HO.out (by rw [HOS.out, HQ.out, Bool.or_true])], by (repeat' (first | (with_reducible exact Below.refl _ _) | (with_reducible refine Below.alloc ?_ ?_ _) | (with_reducible refine Below.drew ?_) | (with_reducible refine below_drewN ?_ _) | (with_reducible refine Below.setCell ?_ ?_ _) | (with_reducible refine below_via ‹_› ?_ ?_) | (with_reducible refine below_grow ?_ ?_ _ _) | omega | (simp; done) | (simp; omega)))⟩
                      case measure => simp [intOf]; omega
                    · have HO := hid ho
                      rw [ho] at cc
                      go_wp2_with (go_at_call 59; refine (cc _).mono ?_; rintro e w' ⟨rfl, rfl⟩)
                      go_roundw
                      case rel => exact ⟨j + 1, by omega, by go_num, by rw [HSAM.out (by rw [HOS.out, HQ.out, HO.out]; rfl)], by (repeat' (first | (with_reducible exact Below.refl _ _) | (with_reducible refine Below.alloc ?_ ?_ _) | (with_reducible refine Below.drew ?_) | (with_reducible refine below_drewN ?_ _) | (with_reducible refine Below.setCell ?_ ?_ _) | (with_reducible refine below_via ‹_› ?_ ?_) | (with_reducible refine below_grow ?_ ?_ _ _) | omega | (simp; done) | (simp; omega)))⟩
                      case measure => simp [intOf]; omega
                · have e : j = xs.length := by omega
                  subst e
                  obtain ⟨W4, hW4⟩ : ∃ z, z = wr := ⟨_, rfl⟩
                  have hit4 : W4.heap[w.heap.size]? = some (.stringIter ⟨#[87, 82, 71, 89]⟩ 4) := by rw [hW4, hBr.block _ hzV3]; exact hitV3.out
                  have hB4 : Below w.heap.size w W4 := by rw [hW4]; exact hB
                  have hz4 : w.heap.size < W4.heap.size := by rw [hW4]; omega
                  clear hBr hB hBr2
                  rw [midB_full]
                  go_wp2
                  rw [← hW4]
                  clear hW4 hlt hzr
                  rw [rounds_succ]
                  have hnx4 := fun ty => run_next_at_end (P := Try.prog) W4 w.heap.size ⟨#[87, 82, 71, 89]⟩ 4 ty hit4 (by decide)
                  go_wp2
                  go_ret
                  exact ⟨rfl, hB4⟩
theorem oneB_list (c : UInt8) : (oneB c).toList = [c] := by rw [ByteArray.toList_eq]; rfl
theorem colsB_t {xs : List SectorD} {k : Nat} (h : occ xs (chB k) xs.length = true) : colsB xs (k + 1) = colsB xs k ++ oneB (chB k) := by
  apply toList_inj'.1
  rw [ByteArray.toList_eq, ByteArray.toList_eq]
  simp [ByteArray.data_append, colsB, colsL, h, oneB]
theorem colsB_f {xs : List SectorD} {k : Nat} (h : occ xs (chB k) xs.length = false) : colsB xs (k + 1) = colsB xs k := by simp [colsB, colsL, h]
theorem colsB_size (xs : List SectorD) (k : Nat) : (colsB xs k).size ≤ k := by
  show (colsL xs k).toArray.size ≤ k
  simpa using colsL_len xs k
set_option maxHeartbeats 4000000 in
theorem c_l08Colors (v : Value) (xs : List SectorD) (w : World) (h : SlA w 0 3 encSector v xs) (hl : xs.length ≤ 12) :
    Calls Try.prog 45 #[v] w fun e w' => e = .returned (.string (colsB xs 4)) ∧ Below w.heap.size w w' := by
  obtain ⟨ad, cap, b, off, rfl, hm, had, hx⟩ := h.uni
  go_enter Try.func45, Try.ntmps45
  go_wp2
  obtain ⟨W1, hW1⟩ : ∃ z, z = w.alloc (Obj.cells #[.string ⟨#[87]⟩, .string ⟨#[82]⟩, .string ⟨#[71]⟩, .string ⟨#[89]⟩] 9) := ⟨_, rfl⟩
  rw [← hW1]
  have hB1 : Below w.heap.size w W1 := by rw [hW1]; (repeat' (first | (with_reducible exact Below.refl _ _) | (with_reducible refine Below.alloc ?_ ?_ _) | (with_reducible refine Below.drew ?_) | (with_reducible refine below_drewN ?_ _) | (with_reducible refine Below.setCell ?_ ?_ _) | (with_reducible refine below_via ‹_› ?_ ?_) | (with_reducible refine below_grow ?_ ?_ _ _) | omega | (simp; done) | (simp; omega)))
  have hz1 : w.heap.size < W1.heap.size := by rw [hW1]; simp
  have HC := hid (show ∀ k : Nat, k < 4 → W1.cell? ⟨w.heap.size, k, none⟩ = some (.string (oneB (chB k))) from fun k hk => by
    have : k = 0 ∨ k = 1 ∨ k = 2 ∨ k = 3 := by omega
    rw [hW1]
    rcases this with rfl | rfl | rfl | rfl <;> simp [go_sem, oneB, chB])
  clear hW1
  rw [show Value.string (⟨#[]⟩ : ByteArray) = Value.string (colsB xs 0) from rfl]
  go_loopw [3, 5] (fun q i wr => ∃ k : Nat, k ≤ 4 ∧ i = .int .i64 k ∧ q = .string (colsB xs k) ∧ Below W1.heap.size W1 wr) (fun _ i _ => 4 - (intOf i).toNat)
  case atStart => exact ⟨0, by omega, rfl, rfl, Below.refl _ _⟩
  case round =>
    obtain ⟨k, hk, rfl, rfl, hBo⟩ := hrel
    obtain ⟨wo, rfl⟩ : ∃ wo : World, wo = wr := ⟨_, rfl⟩
    have hzo := hBo.size
    have hsz := colsB_size xs k
    by_cases hkt : k < 4
    · have hkI : (k : Int) < 4 := by omega
      have ck := below_cell hBo hz1 (HC.out k hkt)
      obtain ⟨c, hc⟩ : ∃ c, c = chB k := ⟨_, rfl⟩
      have HT := hid (fun h => colsB_t (xs := xs) (k := k) h)
      have HF := hid (fun h => colsB_f (xs := xs) (k := k) h)
      rw [← hc] at ck HT HF
      have hos : (oneB c).size = 1 := rfl
      have HOS := hid (fun j (hj : j < xs.length) => occ_succ (c := c) hj)
      have HOL := hid (oneB_list c)
      have hBw : Below w.heap.size w wo := hB1.trans (hBo.mono (by omega))
      clear hc
      go_wp2
      go_loopw [3, 6] (fun q i wr => ∃ j : Nat, j ≤ xs.length ∧ i = .int .i64 j ∧ q = .string (colsB xs k) ∧ occ xs c j = false ∧ Below wo.heap.size wo wr) (fun _ i _ => xs.length - (intOf i).toNat)
      case atStart => exact ⟨0, by omega, rfl, rfl, rfl, Below.refl _ _⟩
      case round =>
        obtain ⟨j, hj, rfl, rfl, hno, hBr⟩ := hrel
        have HNO := hid hno; clear hno
        have hzr := hBr.size
        have hB : Below w.heap.size w wr := hBw.trans (hBr.mono (by have := hBw.size; omega))
        have hBr2 := hBr
        by_cases hlt : j < xs.length
        · have hlI : (j : Int) < xs.length := by omega
          obtain ⟨rfl, hbb, -, hcc, hmc⟩ := had (by omega)
          have g2 := below_cell hB hbb (hx j hlt 2 (by omega))
          simp only [encSector, List.getD_cons_zero, List.getD_cons_succ, Nat.add_zero] at g2
          have ck2 := below_cell hBr (by omega) ck
          have HO := hid (HOS.out j hlt)
          cases hq : (xs[j].fColor.toList == (oneB c).toList)
          · have HQ := hid hq
            go_wp2
            go_quiet (fail)
            go_wp2
            go_roundw
            case rel => exact ⟨j + 1, by omega, by go_num, rfl, by rw [HO.out, HNO.out, ← HOL.out, HQ.out]; rfl, by (repeat' (first | (with_reducible exact Below.refl _ _) | (with_reducible refine Below.alloc ?_ ?_ _) | (with_reducible refine Below.drew ?_) | (with_reducible refine below_drewN ?_ _) | (with_reducible refine Below.setCell ?_ ?_ _) | (with_reducible refine below_via ‹_› ?_ ?_) | (with_reducible refine below_grow ?_ ?_ _ _) | omega | (simp; done) | (simp; omega)))⟩
            case measure => simp [intOf]; omega
          · have HQ := hid hq
            have HE := hid (HT.out (occ_mono (n := j + 1) (by rw [HO.out, ← HOL.out, HQ.out, Bool.or_true]) (by omega)))
            go_wp2
            go_quiet (fail)
            go_wp2
            go_roundw
            case rel => exact ⟨k + 1, by omega, by go_num, by rw [HE.out], hBo.trans (Below.mono (show Below wo.heap.size wo _ by (repeat' (first | (with_reducible exact Below.refl _ _) | (with_reducible refine Below.alloc ?_ ?_ _) | (with_reducible refine Below.drew ?_) | (with_reducible refine below_drewN ?_ _) | (with_reducible refine Below.setCell ?_ ?_ _) | (with_reducible refine below_via ‹_› ?_ ?_) | (with_reducible refine below_grow ?_ ?_ _ _) | omega | (simp; done) | (simp; omega)))) (by omega))⟩
            case measure => simp [intOf]; omega
        · have e : j = xs.length := by omega
          have HE := hid (HF.out (by rw [← e]; exact HNO.out))
          clear e
          go_wp2
          go_roundw
          case rel => exact ⟨k + 1, by omega, by go_num, by rw [HE.out], hBo.trans (hBr.mono (by omega))⟩
          case measure => simp [intOf]; omega
    · have e : k = 4 := by omega
      subst e
      go_wp2
      go_ret
      exact ⟨rfl, hB1.trans (hBo.mono (by omega))⟩
def coC (xs : List SectorD) : Int := if secB xs then 0 else 1
set_option maxHeartbeats 1000000 in
theorem c_impl_ColorsOf (v : Value) (xs : List SectorD) (w : World) (h : SlA w 0 3 encSector v xs) (hok : ∀ x ∈ xs, okSector x) (hl : xs.length ≤ 1048576) :
    Calls Try.prog 21 #[v] w fun e w' => e = .returned (.tuple #[.string (colR xs), .int .i64 (coC xs)]) ∧ Below w.heap.size w w' := by
  cases hs : secB xs
  · have HL := hid (show colR xs = ⟨#[]⟩ ∧ coC xs = 1 by simp [colR, coC, hs])
    go_enter Try.func21, Try.ntmps21
    go_wp2_with (first | (go_at_call 14; refine (c_impl_ValidSectors _ _ _ (by first | (with_reducible assumption) | (with_reducible apply SlO.at; (with_reducible assumption); (repeat' (first | (with_reducible exact Below.refl _ _) | (with_reducible refine Below.alloc ?_ ?_ _) | (with_reducible refine Below.drew ?_) | (with_reducible refine below_drewN ?_ _) | (with_reducible refine Below.setCell ?_ ?_ _) | (with_reducible refine below_via ‹_› ?_ ?_) | (with_reducible refine below_grow ?_ ?_ _ _) | omega | (simp; done) | (simp; omega))); done) | (with_reducible apply SlA.at; (with_reducible assumption); (repeat' (first | (with_reducible exact Below.refl _ _) | (with_reducible refine Below.alloc ?_ ?_ _) | (with_reducible refine Below.drew ?_) | (with_reducible refine below_drewN ?_ _) | (with_reducible refine Below.setCell ?_ ?_ _) | (with_reducible refine below_via ‹_› ?_ ?_) | (with_reducible refine below_grow ?_ ?_ _ _) | omega | (simp; done) | (simp; omega))); done)) (by assumption) (by omega)).mono ?_; rintro e w1 ⟨rfl, hb⟩; obtain ⟨hc, hf⟩ := bcell hb; have hz := hb.size; (try simp at hz); (try have hz0 : ∀ b, b < w.heap.size → b < w1.heap.size := fun b h => by omega); (try have hz1 : w.heap.size < w1.heap.size := by omega); (try have hz2 : w.heap.size + 1 < w1.heap.size := by omega); (try have hz3 : w.heap.size + 2 < w1.heap.size := by omega)))
    go_ret2
    exact ⟨by rw [HL.out.1, HL.out.2]; rfl, by (repeat' (first | (with_reducible exact Below.refl _ _) | (with_reducible refine Below.alloc ?_ ?_ _) | (with_reducible refine Below.drew ?_) | (with_reducible refine below_drewN ?_ _) | (with_reducible refine Below.setCell ?_ ?_ _) | (with_reducible refine below_via ‹_› ?_ ?_) | (with_reducible refine below_grow ?_ ?_ _ _) | omega | (simp; done) | (simp; omega)))⟩
  · have HL := hid (show colR xs = colsB xs 4 ∧ coC xs = 0 by simp [colR, coC, hs])
    have h12 := (secB_all hs).1
    go_enter Try.func21, Try.ntmps21
    go_wp2_with (first | (go_at_call 14; refine (c_impl_ValidSectors _ _ _ (by first | (with_reducible assumption) | (with_reducible apply SlO.at; (with_reducible assumption); (repeat' (first | (with_reducible exact Below.refl _ _) | (with_reducible refine Below.alloc ?_ ?_ _) | (with_reducible refine Below.drew ?_) | (with_reducible refine below_drewN ?_ _) | (with_reducible refine Below.setCell ?_ ?_ _) | (with_reducible refine below_via ‹_› ?_ ?_) | (with_reducible refine below_grow ?_ ?_ _ _) | omega | (simp; done) | (simp; omega))); done) | (with_reducible apply SlA.at; (with_reducible assumption); (repeat' (first | (with_reducible exact Below.refl _ _) | (with_reducible refine Below.alloc ?_ ?_ _) | (with_reducible refine Below.drew ?_) | (with_reducible refine below_drewN ?_ _) | (with_reducible refine Below.setCell ?_ ?_ _) | (with_reducible refine below_via ‹_› ?_ ?_) | (with_reducible refine below_grow ?_ ?_ _ _) | omega | (simp; done) | (simp; omega))); done)) (by assumption) (by omega)).mono ?_; rintro e w1 ⟨rfl, hb⟩; obtain ⟨hc, hf⟩ := bcell hb; have hz := hb.size; (try simp at hz); (try have hz0 : ∀ b, b < w.heap.size → b < w1.heap.size := fun b h => by omega); (try have hz1 : w.heap.size < w1.heap.size := by omega); (try have hz2 : w.heap.size + 1 < w1.heap.size := by omega); (try have hz3 : w.heap.size + 2 < w1.heap.size := by omega)) | (go_at_call 46; refine (c_colorsOf _ _ _ (by first | (with_reducible assumption) | (with_reducible apply SlO.at; (with_reducible assumption); (repeat' (first | (with_reducible exact Below.refl _ _) | (with_reducible refine Below.alloc ?_ ?_ _) | (with_reducible refine Below.drew ?_) | (with_reducible refine below_drewN ?_ _) | (with_reducible refine Below.setCell ?_ ?_ _) | (with_reducible refine below_via ‹_› ?_ ?_) | (with_reducible refine below_grow ?_ ?_ _ _) | omega | (simp; done) | (simp; omega))); done) | (with_reducible apply SlA.at; (with_reducible assumption); (repeat' (first | (with_reducible exact Below.refl _ _) | (with_reducible refine Below.alloc ?_ ?_ _) | (with_reducible refine Below.drew ?_) | (with_reducible refine below_drewN ?_ _) | (with_reducible refine Below.setCell ?_ ?_ _) | (with_reducible refine below_via ‹_› ?_ ?_) | (with_reducible refine below_grow ?_ ?_ _ _) | omega | (simp; done) | (simp; omega))); done)) (by omega)).mono ?_; rintro e w1 ⟨rfl, hb⟩; obtain ⟨hc, hf⟩ := bcell hb; have hz := hb.size; (try simp at hz); (try have hz0 : ∀ b, b < w.heap.size → b < w1.heap.size := fun b h => by omega); (try have hz1 : w.heap.size < w1.heap.size := by omega); (try have hz2 : w.heap.size + 1 < w1.heap.size := by omega); (try have hz3 : w.heap.size + 2 < w1.heap.size := by omega)))
    go_ret2
    exact ⟨by rw [HL.out.1, HL.out.2]; rfl, by (repeat' (first | (with_reducible exact Below.refl _ _) | (with_reducible refine Below.alloc ?_ ?_ _) | (with_reducible refine Below.drew ?_) | (with_reducible refine below_drewN ?_ _) | (with_reducible refine Below.setCell ?_ ?_ _) | (with_reducible refine below_via ‹_› ?_ ?_) | (with_reducible refine below_grow ?_ ?_ _ _) | omega | (simp; done) | (simp; omega)))⟩
set_option maxHeartbeats 1000000 in
theorem c_spec_ColorsOf (v : Value) (xs : List SectorD) (w : World) (h : SlA w 0 3 encSector v xs) (hok : ∀ x ∈ xs, okSector x) :
    Calls Try.prog 20 #[v] w fun e w' => e = .returned (.tuple #[.string (colR xs), .int .i64 (coC xs)]) ∧ Below w.heap.size w w' := by
  cases hs : secB xs
  · have HL := hid (show colR xs = ⟨#[]⟩ ∧ coC xs = 1 by simp [colR, coC, hs])
    go_enter Try.func20, Try.ntmps20
    go_wp2_with (first | (go_at_call 34; refine (c_l08Ok _ _ _ (by first | (with_reducible assumption) | (with_reducible apply SlO.at; (with_reducible assumption); (repeat' (first | (with_reducible exact Below.refl _ _) | (with_reducible refine Below.alloc ?_ ?_ _) | (with_reducible refine Below.drew ?_) | (with_reducible refine below_drewN ?_ _) | (with_reducible refine Below.setCell ?_ ?_ _) | (with_reducible refine below_via ‹_› ?_ ?_) | (with_reducible refine below_grow ?_ ?_ _ _) | omega | (simp; done) | (simp; omega))); done) | (with_reducible apply SlA.at; (with_reducible assumption); (repeat' (first | (with_reducible exact Below.refl _ _) | (with_reducible refine Below.alloc ?_ ?_ _) | (with_reducible refine Below.drew ?_) | (with_reducible refine below_drewN ?_ _) | (with_reducible refine Below.setCell ?_ ?_ _) | (with_reducible refine below_via ‹_› ?_ ?_) | (with_reducible refine below_grow ?_ ?_ _ _) | omega | (simp; done) | (simp; omega))); done)) (by assumption)).mono ?_; rintro e w1 ⟨rfl, hb⟩; obtain ⟨hc, hf⟩ := bcell hb; have hz := hb.size; (try simp at hz); (try have hz0 : ∀ b, b < w.heap.size → b < w1.heap.size := fun b h => by omega); (try have hz1 : w.heap.size < w1.heap.size := by omega); (try have hz2 : w.heap.size + 1 < w1.heap.size := by omega); (try have hz3 : w.heap.size + 2 < w1.heap.size := by omega)))
    go_ret2
    exact ⟨by rw [HL.out.1, HL.out.2]; rfl, by (repeat' (first | (with_reducible exact Below.refl _ _) | (with_reducible refine Below.alloc ?_ ?_ _) | (with_reducible refine Below.drew ?_) | (with_reducible refine below_drewN ?_ _) | (with_reducible refine Below.setCell ?_ ?_ _) | (with_reducible refine below_via ‹_› ?_ ?_) | (with_reducible refine below_grow ?_ ?_ _ _) | omega | (simp; done) | (simp; omega)))⟩
  · have HL := hid (show colR xs = colsB xs 4 ∧ coC xs = 0 by simp [colR, coC, hs])
    have h12 := (secB_all hs).1
    go_enter Try.func20, Try.ntmps20
    go_wp2_with (first | (go_at_call 34; refine (c_l08Ok _ _ _ (by first | (with_reducible assumption) | (with_reducible apply SlO.at; (with_reducible assumption); (repeat' (first | (with_reducible exact Below.refl _ _) | (with_reducible refine Below.alloc ?_ ?_ _) | (with_reducible refine Below.drew ?_) | (with_reducible refine below_drewN ?_ _) | (with_reducible refine Below.setCell ?_ ?_ _) | (with_reducible refine below_via ‹_› ?_ ?_) | (with_reducible refine below_grow ?_ ?_ _ _) | omega | (simp; done) | (simp; omega))); done) | (with_reducible apply SlA.at; (with_reducible assumption); (repeat' (first | (with_reducible exact Below.refl _ _) | (with_reducible refine Below.alloc ?_ ?_ _) | (with_reducible refine Below.drew ?_) | (with_reducible refine below_drewN ?_ _) | (with_reducible refine Below.setCell ?_ ?_ _) | (with_reducible refine below_via ‹_› ?_ ?_) | (with_reducible refine below_grow ?_ ?_ _ _) | omega | (simp; done) | (simp; omega))); done)) (by assumption)).mono ?_; rintro e w1 ⟨rfl, hb⟩; obtain ⟨hc, hf⟩ := bcell hb; have hz := hb.size; (try simp at hz); (try have hz0 : ∀ b, b < w.heap.size → b < w1.heap.size := fun b h => by omega); (try have hz1 : w.heap.size < w1.heap.size := by omega); (try have hz2 : w.heap.size + 1 < w1.heap.size := by omega); (try have hz3 : w.heap.size + 2 < w1.heap.size := by omega)) | (go_at_call 45; refine (c_l08Colors _ _ _ (by first | (with_reducible assumption) | (with_reducible apply SlO.at; (with_reducible assumption); (repeat' (first | (with_reducible exact Below.refl _ _) | (with_reducible refine Below.alloc ?_ ?_ _) | (with_reducible refine Below.drew ?_) | (with_reducible refine below_drewN ?_ _) | (with_reducible refine Below.setCell ?_ ?_ _) | (with_reducible refine below_via ‹_› ?_ ?_) | (with_reducible refine below_grow ?_ ?_ _ _) | omega | (simp; done) | (simp; omega))); done) | (with_reducible apply SlA.at; (with_reducible assumption); (repeat' (first | (with_reducible exact Below.refl _ _) | (with_reducible refine Below.alloc ?_ ?_ _) | (with_reducible refine Below.drew ?_) | (with_reducible refine below_drewN ?_ _) | (with_reducible refine Below.setCell ?_ ?_ _) | (with_reducible refine below_via ‹_› ?_ ?_) | (with_reducible refine below_grow ?_ ?_ _ _) | omega | (simp; done) | (simp; omega))); done)) (by omega)).mono ?_; rintro e w1 ⟨rfl, hb⟩; obtain ⟨hc, hf⟩ := bcell hb; have hz := hb.size; (try simp at hz); (try have hz0 : ∀ b, b < w.heap.size → b < w1.heap.size := fun b h => by omega); (try have hz1 : w.heap.size < w1.heap.size := by omega); (try have hz2 : w.heap.size + 1 < w1.heap.size := by omega); (try have hz3 : w.heap.size + 2 < w1.heap.size := by omega)))
    go_ret2
    exact ⟨by rw [HL.out.1, HL.out.2]; rfl, by (repeat' (first | (with_reducible exact Below.refl _ _) | (with_reducible refine Below.alloc ?_ ?_ _) | (with_reducible refine Below.drew ?_) | (with_reducible refine below_drewN ?_ _) | (with_reducible refine Below.setCell ?_ ?_ _) | (with_reducible refine below_via ‹_› ?_ ?_) | (with_reducible refine below_grow ?_ ?_ _ _) | omega | (simp; done) | (simp; omega)))⟩
end Go.Proofs.Ytljipgjgjobaaaa
