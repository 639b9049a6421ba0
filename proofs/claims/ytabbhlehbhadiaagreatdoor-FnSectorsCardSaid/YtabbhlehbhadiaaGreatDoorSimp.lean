/- The arcs that are lit, and those that are dark: the program's side. -/
import Derived.Test.YtabbhlehbhadiaaGreatDoorArcW
namespace Go.Proofs.YtabbhlehbhadiaaGreatDoor
open Go.RowKit Go.Sort
set_option maxRecDepth 100000

def darkP (dk : Bool) (s : SectorD) : Bool := decide (s.fColor = emp) == dk
theorem filt_t {α : Type} {p : α → Bool} {xs : List α} {k : Nat} (h : k < xs.length) (hp : p xs[k] = true) : (xs.take (k + 1)).filter p = (xs.take k).filter p ++ [xs[k]] := by
  rw [List.take_succ_eq_append_getElem h, List.filter_append]; simp [hp]
theorem filt_f {α : Type} {p : α → Bool} {xs : List α} {k : Nat} (h : k < xs.length) (hp : p xs[k] = false) : (xs.take (k + 1)).filter p = (xs.take k).filter p := by
  rw [List.take_succ_eq_append_getElem h, List.filter_append]; simp [hp]
theorem emp_iff {c : ByteArray} : c = emp ↔ c.toList = [] := by
  constructor
  · intro h; rw [h, ByteArray.toList_eq]; rfl
  · intro h
    obtain ⟨⟨l⟩⟩ := c
    rw [ByteArray.toList_eq] at h
    simp at h; subst h; rfl
theorem darkP_t {s : SectorD} (h : s.fColor.toList.isEmpty = true) : darkP true s = true ∧ darkP false s = false := by
  have : s.fColor = emp := emp_iff.2 (by simpa using h)
  simp [darkP, this]
theorem darkP_f {s : SectorD} (h : s.fColor.toList.isEmpty = false) : darkP true s = false ∧ darkP false s = true := by
  have : ¬ s.fColor = emp := fun e => by rw [emp_iff.1 e] at h; simp at h
  simp [darkP, this]
theorem arcsF_len (c : Circ) : (arcsF c).length ≤ 360 := by
  rw [arcsF_eq]; split
  · simp
  · rw [List.length_map]
    have := arcsP_len c 360
    have hz : (zipE c 0 (sts c 360)).length = (sts c 360).length := by
      rw [← arcsP_zip]
      have h : ∀ n, (arcsP c n).length = (sts c n).length := fun n => by
        induction n with
        | zero => rfl
        | succ n ih => rw [arcsP, sts]; split <;> simp [setTo_len, ih]
      exact h 360
    rw [arcsP_zip] at this; omega
theorem simp_of (c : Circ) (dk : Bool) {n : Nat} (h : (arcsF c).length ≤ n) : ((arcsF c).take n).filter (darkP dk) = simpF c dk := by
  rw [List.take_of_length_le h]; exact arcs_simp c dk
set_option maxHeartbeats 4000000 in
theorem c_simple (c : Circ) (w : World) :
    Calls Tryz.prog 54 #[.agg (circA c)] w fun e w' => ∃ u, e = .returned u ∧ Below w.heap.size w w' ∧ SlO w' w.heap.size 3 encSector u (simpF c false) := by
  obtain ⟨i0, hi, iz0, iz1, iz2⟩ := info_parts info_Sec
  have hLen := arcsF_len c
  obtain ⟨L, hL⟩ : ∃ L, L = arcsF c := ⟨_, rfl⟩
  have ca : ∀ wq, Calls Tryz.prog 60 #[.agg (circA c)] wq fun e w' => ∃ u, e = .returned u ∧ Below wq.heap.size wq w' ∧ SlO w' wq.heap.size 3 encSector u L := fun wq => by rw [hL]; exact c_arcs c wq
  have HS := hid (show ∀ n, L.length ≤ n → (L.take n).filter (darkP false) = simpF c false from fun n h => by rw [hL] at h ⊢; exact simp_of c false h)
  rw [← hL] at hLen
  clear hL
  go_enter Tryz.func54, Tryz.ntmps54
  go_wp2_with (first | (refine wpList_load_row rfl 85 (.tmp 1) rfl w.heap.size rfl 85 (circA c) (0, 0) _ (by first | exact RowC.new w c | exact (RowC.new w c).below (by (repeat' (first | (with_reducible exact Below.refl _ _) | (with_reducible refine Below.alloc ?_ ?_ _) | (with_reducible refine Below.drew ?_) | (with_reducible refine below_drewN ?_ _) | (with_reducible refine Below.setCell ?_ ?_ _) | (with_reducible refine below_via ‹_› ?_ ?_) | (with_reducible refine below_grow ?_ ?_ _ _) | omega | (simp; done) | (simp; omega))))) Tryz.underlying85 rfl (by rw [circA_size]; exact info_circle) ?_) | (go_at_call 60; refine (ca _).mono ?_; rintro e w1 ⟨u, rfl, hb, hS⟩; obtain ⟨ad, cap, b, off, rfl, hm, had, hx⟩ := hS.1.uni))
  have hA0 := hid (show Acc w1 (w.heap.size + 1) 45 3 encSector w1 (.slice (some ⟨w.heap.size + 1, 0, none⟩) 0 0) ([] : List SectorD) by
    have := Acc.lit (α := SectorD) (W := w1) (w0 := w.alloc (.cells (circA c) 85)) (e := 45) (by simpa using hb) 3 encSector
    simpa using this)
  have hB1 : Below w.heap.size w w1 := by (repeat' (first | (with_reducible exact Below.refl _ _) | (with_reducible refine Below.alloc ?_ ?_ _) | (with_reducible refine Below.drew ?_) | (with_reducible refine below_drewN ?_ _) | (with_reducible refine Below.setCell ?_ ?_ _) | (with_reducible refine below_via ‹_› ?_ ?_) | (with_reducible refine below_grow ?_ ?_ _ _) | omega | (simp; done) | (simp; omega)))
  have hz1 := hb.size
  simp only [World.size_alloc] at hz1
  have hHB := hid hB1
  have hb0 : 0 < L.length → w.heap.size + 2 ≤ b := fun h => by have := (had h).2.2.1; simpa using this
  have HX := hid hx
  clear hb hS hx
  go_loopw [3, 10] (fun q i wr => ∃ k : Nat, k ≤ L.length ∧ i = .int .i64 k ∧ Acc w1 (w.heap.size + 1) 45 3 encSector wr q ((L.take k).filter (darkP false))) (fun _ i _ => L.length - (intOf i).toNat)
  case atStart => exact ⟨0, by omega, rfl, hA0.out⟩
  case round =>
    clear hA0
    obtain ⟨k, hk, rfl, hA⟩ := hrel
    have HA := hid hA; clear hA
    have hB : Below w.heap.size w wr := hHB.out.trans (HA.out.keep.mono (by omega))
    have hzr := hB.size
    have hzr1 := HA.out.size
    have hlen : ((L.take k).filter (darkP false)).length ≤ 360 := Nat.le_trans (List.length_filter_le _ _) (by simp; omega)
    by_cases hlt : k < L.length
    · have hlI : (k : Int) < L.length := by omega
      obtain ⟨rfl, hbb, -, hcc, hmc⟩ := had (by omega)
      have hb2 := hb0 (by omega)
      have g0 := HA.out.cellAt hbb (by omega) (HX.out k hlt 0 (by omega))
      have g1 := HA.out.cellAt hbb (by omega) (HX.out k hlt 1 (by omega))
      have g2 := HA.out.cellAt hbb (by omega) (HX.out k hlt 2 (by omega))
      simp only [encSector, List.getD_cons_zero, List.getD_cons_succ, Nat.add_zero] at g0 g1 g2
      cases he : L[k].fColor.toList.isEmpty
      · have hne : ¬ L[k].fColor.toList = [] := by intro e; rw [e] at he; simp at he
        have HE := hid (filt_t hlt (darkP_f he).2)
        go_wp2_with (at_builtin; refine wpList_push rfl (.tmp 17) (.tmp 19) 43 rfl i0 _ 32 Tryz.underlying43 hi iz0 iz1 iz2 rfl (by decide) (fun _ => rfl) L[k] rfl HA.out (by (repeat' (first | (with_reducible exact Below.refl _ _) | (with_reducible refine Below.alloc ?_ ?_ _) | (with_reducible refine Below.drew ?_) | (with_reducible refine below_drewN ?_ _) | (with_reducible refine Below.setCell ?_ ?_ _) | (with_reducible refine below_via ‹_› ?_ ?_) | (with_reducible refine below_grow ?_ ?_ _ _) | omega | (simp; done) | (simp; omega)))) 45 1 (by first | rfl | (rw [World.size_alloc]; rfl)) (one_encSector _) (by unfold maxLen; omega) (by omega) ?_; intro v1 w2 hA1)
        go_roundw
        case rel => exact ⟨k + 1, by omega, by go_num, by rw [HE.out]; exact hA1⟩
        case measure => simp [intOf]; omega
      · have hne : L[k].fColor.toList = [] := by simpa using he
        have HE := hid (filt_f hlt (darkP_t he).2)
        go_wp2
        go_roundw
        case rel => exact ⟨k + 1, by omega, by go_num, by rw [HE.out]; exact HA.out.below (by (repeat' (first | (with_reducible exact Below.refl _ _) | (with_reducible refine Below.alloc ?_ ?_ _) | (with_reducible refine Below.drew ?_) | (with_reducible refine below_drewN ?_ _) | (with_reducible refine Below.setCell ?_ ?_ _) | (with_reducible refine below_via ‹_› ?_ ?_) | (with_reducible refine below_grow ?_ ?_ _ _) | omega | (simp; done) | (simp; omega))))⟩
        case measure => simp [intOf]; omega
    · have hd := HA.out.done (fun _ => rfl) hHB.out (by omega)
      rw [HS.out k (by omega)] at hd
      have HD := hid hd
      clear hd
      go_wp2
      go_ret
      exact ⟨_, rfl, HD.out.1, HD.out.2⟩
theorem circ_dark_len (c : Circ) (dk : Bool) : (simpF c dk).length ≤ 360 := simpF_len c dk
/-- a list of sectors and a code -/
def SectorsCode (w w' : World) (xs : List SectorD) (code : Int) (e : Ending) : Prop :=
  ∃ u, e = .returned (.tuple #[u, .int .i64 code]) ∧ Below w.heap.size w w' ∧ SlO w' w.heap.size 3 encSector u xs
theorem sectorsCode_none {w w' : World} (h : Below w.heap.size w w') {code : Int} {xs : List SectorD} (hc : xs = []) : SectorsCode w w' xs code (.returned (.tuple #[.slice none 0 0, .int .i64 code])) :=
  ⟨_, rfl, h, .inl ⟨none, 0, rfl, hc, Nat.zero_le _⟩, fun b hb => by simp [Value.ownBlock] at hb⟩
def sdL (xs : List SectorD) (dk : Bool) : List SectorD := if secB xs then simpF (circ xs xs.length) dk else []
def sdC (xs : List SectorD) : Int := if secB xs then 0 else 1
theorem sdL_len (xs : List SectorD) (dk : Bool) : (sdL xs dk).length ≤ 360 := by unfold sdL; split; exact simpF_len _ _; simp
set_option maxHeartbeats 1000000 in
theorem c_impl_MergeSectors (v : Value) (xs : List SectorD) (w : World) (h : SlA w 0 3 encSector v xs) (hok : ∀ x ∈ xs, okSector x) (hl : xs.length ≤ 1048576) :
    Calls Tryz.prog 24 #[v] w fun e w' => SectorsCode w w' (sdL xs false) (sdC xs) e := by
  cases hs : secB xs
  · have HL := hid (show sdL xs false = [] ∧ sdC xs = 1 by simp [sdL, sdC, hs])
    go_enter Tryz.func24, Tryz.ntmps24
    go_wp2_with (first | (go_at_call 49; refine (c_impl_ValidSectors _ _ _ (by first | (with_reducible assumption) | (with_reducible apply SlO.at; (with_reducible assumption); (repeat' (first | (with_reducible exact Below.refl _ _) | (with_reducible refine Below.alloc ?_ ?_ _) | (with_reducible refine Below.drew ?_) | (with_reducible refine below_drewN ?_ _) | (with_reducible refine Below.setCell ?_ ?_ _) | (with_reducible refine below_via ‹_› ?_ ?_) | (with_reducible refine below_grow ?_ ?_ _ _) | omega | (simp; done) | (simp; omega))); done) | (with_reducible apply SlA.at; (with_reducible assumption); (repeat' (first | (with_reducible exact Below.refl _ _) | (with_reducible refine Below.alloc ?_ ?_ _) | (with_reducible refine Below.drew ?_) | (with_reducible refine below_drewN ?_ _) | (with_reducible refine Below.setCell ?_ ?_ _) | (with_reducible refine below_via ‹_› ?_ ?_) | (with_reducible refine below_grow ?_ ?_ _ _) | omega | (simp; done) | (simp; omega))); done)) (by assumption) (by omega)).mono ?_; rintro e w1 ⟨rfl, hb⟩; obtain ⟨hc, hf⟩ := bcell hb; have hz := hb.size; (try simp at hz); (try have hz0 : ∀ b, b < w.heap.size → b < w1.heap.size := fun b h => by omega); (try have hz1 : w.heap.size < w1.heap.size := by omega); (try have hz2 : w.heap.size + 1 < w1.heap.size := by omega); (try have hz3 : w.heap.size + 2 < w1.heap.size := by omega)))
    go_ret2
    rw [HL.out.2]
    exact sectorsCode_none (by (repeat' (first | (with_reducible exact Below.refl _ _) | (with_reducible refine Below.alloc ?_ ?_ _) | (with_reducible refine Below.drew ?_) | (with_reducible refine below_drewN ?_ _) | (with_reducible refine Below.setCell ?_ ?_ _) | (with_reducible refine below_via ‹_› ?_ ?_) | (with_reducible refine below_grow ?_ ?_ _ _) | omega | (simp; done) | (simp; omega)))) HL.out.1
  · have HL := hid (show sdL xs false = simpF (circ xs xs.length) false ∧ sdC xs = 0 by simp [sdL, sdC, hs])
    go_enter Tryz.func24, Tryz.ntmps24
    go_wp2_with (first | (go_at_call 49; refine (c_impl_ValidSectors _ _ _ (by first | (with_reducible assumption) | (with_reducible apply SlO.at; (with_reducible assumption); (repeat' (first | (with_reducible exact Below.refl _ _) | (with_reducible refine Below.alloc ?_ ?_ _) | (with_reducible refine Below.drew ?_) | (with_reducible refine below_drewN ?_ _) | (with_reducible refine Below.setCell ?_ ?_ _) | (with_reducible refine below_via ‹_› ?_ ?_) | (with_reducible refine below_grow ?_ ?_ _ _) | omega | (simp; done) | (simp; omega))); done) | (with_reducible apply SlA.at; (with_reducible assumption); (repeat' (first | (with_reducible exact Below.refl _ _) | (with_reducible refine Below.alloc ?_ ?_ _) | (with_reducible refine Below.drew ?_) | (with_reducible refine below_drewN ?_ _) | (with_reducible refine Below.setCell ?_ ?_ _) | (with_reducible refine below_via ‹_› ?_ ?_) | (with_reducible refine below_grow ?_ ?_ _ _) | omega | (simp; done) | (simp; omega))); done)) (by assumption) (by omega)).mono ?_; rintro e w1 ⟨rfl, hb⟩; obtain ⟨hc, hf⟩ := bcell hb; have hz := hb.size; (try simp at hz); (try have hz0 : ∀ b, b < w.heap.size → b < w1.heap.size := fun b h => by omega); (try have hz1 : w.heap.size < w1.heap.size := by omega); (try have hz2 : w.heap.size + 1 < w1.heap.size := by omega); (try have hz3 : w.heap.size + 2 < w1.heap.size := by omega)) | (go_at_call 52; refine (c_painted _ _ _ (by first | (with_reducible assumption) | (with_reducible apply SlO.at; (with_reducible assumption); (repeat' (first | (with_reducible exact Below.refl _ _) | (with_reducible refine Below.alloc ?_ ?_ _) | (with_reducible refine Below.drew ?_) | (with_reducible refine below_drewN ?_ _) | (with_reducible refine Below.setCell ?_ ?_ _) | (with_reducible refine below_via ‹_› ?_ ?_) | (with_reducible refine below_grow ?_ ?_ _ _) | omega | (simp; done) | (simp; omega))); done) | (with_reducible apply SlA.at; (with_reducible assumption); (repeat' (first | (with_reducible exact Below.refl _ _) | (with_reducible refine Below.alloc ?_ ?_ _) | (with_reducible refine Below.drew ?_) | (with_reducible refine below_drewN ?_ _) | (with_reducible refine Below.setCell ?_ ?_ _) | (with_reducible refine below_via ‹_› ?_ ?_) | (with_reducible refine below_grow ?_ ?_ _ _) | omega | (simp; done) | (simp; omega))); done)) (by assumption)).mono ?_; rintro e w1 ⟨rfl, hb⟩; obtain ⟨hc, hf⟩ := bcell hb; have hz := hb.size; (try simp at hz); (try have hz0 : ∀ b, b < w.heap.size → b < w1.heap.size := fun b h => by omega); (try have hz1 : w.heap.size < w1.heap.size := by omega); (try have hz2 : w.heap.size + 1 < w1.heap.size := by omega); (try have hz3 : w.heap.size + 2 < w1.heap.size := by omega)) | (go_at_call 54; refine (c_simple _ _).mono ?_; rintro e w2 ⟨u, rfl, hb2, hS⟩))
    go_ret2
    rw [HL.out.1, HL.out.2]
    exact ⟨_, rfl, by (repeat' (first | (with_reducible exact Below.refl _ _) | (with_reducible refine Below.alloc ?_ ?_ _) | (with_reducible refine Below.drew ?_) | (with_reducible refine below_drewN ?_ _) | (with_reducible refine Below.setCell ?_ ?_ _) | (with_reducible refine below_via ‹_› ?_ ?_) | (with_reducible refine below_grow ?_ ?_ _ _) | omega | (simp; done) | (simp; omega))), hS.mono (by omega)⟩
set_option maxHeartbeats 4000000 in
theorem c_impl_DarkArcs (v : Value) (xs : List SectorD) (w : World) (h : SlA w 0 3 encSector v xs) (hok : ∀ x ∈ xs, okSector x) (hl : xs.length ≤ 1048576) :
    Calls Tryz.prog 23 #[v] w fun e w' => SectorsCode w w' (sdL xs true) (sdC xs) e := by
  cases hs : secB xs
  · have HL := hid (show sdL xs true = [] ∧ sdC xs = 1 by simp [sdL, sdC, hs])
    go_enter Tryz.func23, Tryz.ntmps23
    go_wp2_with (first | (go_at_call 49; refine (c_impl_ValidSectors _ _ _ (by first | (with_reducible assumption) | (with_reducible apply SlO.at; (with_reducible assumption); (repeat' (first | (with_reducible exact Below.refl _ _) | (with_reducible refine Below.alloc ?_ ?_ _) | (with_reducible refine Below.drew ?_) | (with_reducible refine below_drewN ?_ _) | (with_reducible refine Below.setCell ?_ ?_ _) | (with_reducible refine below_via ‹_› ?_ ?_) | (with_reducible refine below_grow ?_ ?_ _ _) | omega | (simp; done) | (simp; omega))); done) | (with_reducible apply SlA.at; (with_reducible assumption); (repeat' (first | (with_reducible exact Below.refl _ _) | (with_reducible refine Below.alloc ?_ ?_ _) | (with_reducible refine Below.drew ?_) | (with_reducible refine below_drewN ?_ _) | (with_reducible refine Below.setCell ?_ ?_ _) | (with_reducible refine below_via ‹_› ?_ ?_) | (with_reducible refine below_grow ?_ ?_ _ _) | omega | (simp; done) | (simp; omega))); done)) (by assumption) (by omega)).mono ?_; rintro e w1 ⟨rfl, hb⟩; obtain ⟨hc, hf⟩ := bcell hb; have hz := hb.size; (try simp at hz); (try have hz0 : ∀ b, b < w.heap.size → b < w1.heap.size := fun b h => by omega); (try have hz1 : w.heap.size < w1.heap.size := by omega); (try have hz2 : w.heap.size + 1 < w1.heap.size := by omega); (try have hz3 : w.heap.size + 2 < w1.heap.size := by omega)))
    go_ret2
    rw [HL.out.2]
    exact sectorsCode_none (by (repeat' (first | (with_reducible exact Below.refl _ _) | (with_reducible refine Below.alloc ?_ ?_ _) | (with_reducible refine Below.drew ?_) | (with_reducible refine below_drewN ?_ _) | (with_reducible refine Below.setCell ?_ ?_ _) | (with_reducible refine below_via ‹_› ?_ ?_) | (with_reducible refine below_grow ?_ ?_ _ _) | omega | (simp; done) | (simp; omega)))) HL.out.1
  have HL := hid (show sdL xs true = simpF (circ xs xs.length) true ∧ sdC xs = 0 by simp [sdL, sdC, hs])
  obtain ⟨i0, hi, iz0, iz1, iz2⟩ := info_parts info_Sec
  have hLen := arcsF_len (circ xs xs.length)
  obtain ⟨L, hL⟩ : ∃ L, L = arcsF (circ xs xs.length) := ⟨_, rfl⟩
  have ca : ∀ wq, Calls Tryz.prog 60 #[.agg (circA (circ xs xs.length))] wq fun e w' => ∃ u, e = .returned u ∧ Below wq.heap.size wq w' ∧ SlO w' wq.heap.size 3 encSector u L := fun wq => by rw [hL]; exact c_arcs _ wq
  have HS := hid (show ∀ n, L.length ≤ n → (L.take n).filter (darkP true) = simpF (circ xs xs.length) true from fun n h => by rw [hL] at h ⊢; exact simp_of _ true h)
  rw [← hL] at hLen
  clear hL
  go_enter Tryz.func23, Tryz.ntmps23
  go_wp2_with (first | (go_at_call 49; refine (c_impl_ValidSectors _ _ _ (by first | (with_reducible assumption) | (with_reducible apply SlO.at; (with_reducible assumption); (repeat' (first | (with_reducible exact Below.refl _ _) | (with_reducible refine Below.alloc ?_ ?_ _) | (with_reducible refine Below.drew ?_) | (with_reducible refine below_drewN ?_ _) | (with_reducible refine Below.setCell ?_ ?_ _) | (with_reducible refine below_via ‹_› ?_ ?_) | (with_reducible refine below_grow ?_ ?_ _ _) | omega | (simp; done) | (simp; omega))); done) | (with_reducible apply SlA.at; (with_reducible assumption); (repeat' (first | (with_reducible exact Below.refl _ _) | (with_reducible refine Below.alloc ?_ ?_ _) | (with_reducible refine Below.drew ?_) | (with_reducible refine below_drewN ?_ _) | (with_reducible refine Below.setCell ?_ ?_ _) | (with_reducible refine below_via ‹_› ?_ ?_) | (with_reducible refine below_grow ?_ ?_ _ _) | omega | (simp; done) | (simp; omega))); done)) (by assumption) (by omega)).mono ?_; rintro e w1 ⟨rfl, hb⟩; obtain ⟨hc, hf⟩ := bcell hb; have hz := hb.size; (try simp at hz); (try have hz0 : ∀ b, b < w.heap.size → b < w1.heap.size := fun b h => by omega); (try have hz1 : w.heap.size < w1.heap.size := by omega); (try have hz2 : w.heap.size + 1 < w1.heap.size := by omega); (try have hz3 : w.heap.size + 2 < w1.heap.size := by omega)) | (go_at_call 52; refine (c_painted _ _ _ (by first | (with_reducible assumption) | (with_reducible apply SlO.at; (with_reducible assumption); (repeat' (first | (with_reducible exact Below.refl _ _) | (with_reducible refine Below.alloc ?_ ?_ _) | (with_reducible refine Below.drew ?_) | (with_reducible refine below_drewN ?_ _) | (with_reducible refine Below.setCell ?_ ?_ _) | (with_reducible refine below_via ‹_› ?_ ?_) | (with_reducible refine below_grow ?_ ?_ _ _) | omega | (simp; done) | (simp; omega))); done) | (with_reducible apply SlA.at; (with_reducible assumption); (repeat' (first | (with_reducible exact Below.refl _ _) | (with_reducible refine Below.alloc ?_ ?_ _) | (with_reducible refine Below.drew ?_) | (with_reducible refine below_drewN ?_ _) | (with_reducible refine Below.setCell ?_ ?_ _) | (with_reducible refine below_via ‹_› ?_ ?_) | (with_reducible refine below_grow ?_ ?_ _ _) | omega | (simp; done) | (simp; omega))); done)) hs).mono ?_; rintro e w2 ⟨rfl, hb2⟩) | (go_at_call 60; refine (ca _).mono ?_; rintro e w3 ⟨u, rfl, hb3, hS⟩; obtain ⟨ad, cap, b, off, rfl, hm, had, hx⟩ := hS.1.uni))
  have hB12 : Below (w1.heap.size + 1) (w1.alloc (.cells #[] 45)) w3 := (show Below (w1.heap.size + 1) (w1.alloc (.cells #[] 45)) w2 by simpa using hb2).trans (hb3.mono (by have := hb2.size; simp only [World.size_alloc] at this; omega))
  have hA0 := hid (Acc.lit (α := SectorD) (W := w3) (w0 := w1) (e := 45) hB12 3 encSector)
  have hB1 : Below w.heap.size w w3 := by (repeat' (first | (with_reducible exact Below.refl _ _) | (with_reducible refine Below.alloc ?_ ?_ _) | (with_reducible refine Below.drew ?_) | (with_reducible refine below_drewN ?_ _) | (with_reducible refine Below.setCell ?_ ?_ _) | (with_reducible refine below_via ‹_› ?_ ?_) | (with_reducible refine below_grow ?_ ?_ _ _) | omega | (simp; done) | (simp; omega)))
  have hz1 := hB12.size
  simp only [World.size_alloc] at hz1
  have hzz := hb.size
  have hHB := hid hB1
  have hb0 : 0 < L.length → w1.heap.size + 1 ≤ b := fun h => by have := (had h).2.2.1; have := hb2.size; simp only [World.size_alloc] at this; omega
  have HX := hid hx
  clear hb hb2 hb3 hS hx hB12 hc hf hz
  go_loopw [4, 15] (fun q i wr => ∃ k : Nat, k ≤ L.length ∧ i = .int .i64 k ∧ Acc w3 w1.heap.size 45 3 encSector wr q ((L.take k).filter (darkP true))) (fun _ i _ => L.length - (intOf i).toNat)
  case atStart => exact ⟨0, by omega, rfl, hA0.out⟩
  case round =>
    clear hA0
    obtain ⟨k, hk, rfl, hA⟩ := hrel
    have HA := hid hA; clear hA
    have hB : Below w.heap.size w wr := hHB.out.trans (HA.out.keep.mono (by omega))
    have hzr := hB.size
    have hzr1 := HA.out.size
    have hlen : ((L.take k).filter (darkP true)).length ≤ 360 := Nat.le_trans (List.length_filter_le _ _) (by simp; omega)
    by_cases hlt : k < L.length
    · have hlI : (k : Int) < L.length := by omega
      obtain ⟨rfl, hbb, -, hcc, hmc⟩ := had (by omega)
      have hb2 := hb0 (by omega)
      have g0 := HA.out.cellAt hbb (by omega) (HX.out k hlt 0 (by omega))
      have g1 := HA.out.cellAt hbb (by omega) (HX.out k hlt 1 (by omega))
      have g2 := HA.out.cellAt hbb (by omega) (HX.out k hlt 2 (by omega))
      simp only [encSector, List.getD_cons_zero, List.getD_cons_succ, Nat.add_zero] at g0 g1 g2
      cases he : L[k].fColor.toList.isEmpty
      · have hne : ¬ L[k].fColor.toList = [] := by intro e; rw [e] at he; simp at he
        have HE := hid (filt_f hlt (darkP_f he).1)
        go_wp2
        go_roundw
        case rel => exact ⟨k + 1, by omega, by go_num, by rw [HE.out]; exact HA.out.below (by (repeat' (first | (with_reducible exact Below.refl _ _) | (with_reducible refine Below.alloc ?_ ?_ _) | (with_reducible refine Below.drew ?_) | (with_reducible refine below_drewN ?_ _) | (with_reducible refine Below.setCell ?_ ?_ _) | (with_reducible refine below_via ‹_› ?_ ?_) | (with_reducible refine below_grow ?_ ?_ _ _) | omega | (simp; done) | (simp; omega))))⟩
        case measure => simp [intOf]; omega
      · have hne : L[k].fColor.toList = [] := by simpa using he
        have HE := hid (filt_t hlt (darkP_t he).1)
        go_wp2_with (at_builtin; refine wpList_push rfl (.tmp 22) (.tmp 24) 43 rfl i0 _ 32 Tryz.underlying43 hi iz0 iz1 iz2 rfl (by decide) (fun _ => rfl) L[k] rfl HA.out (by (repeat' (first | (with_reducible exact Below.refl _ _) | (with_reducible refine Below.alloc ?_ ?_ _) | (with_reducible refine Below.drew ?_) | (with_reducible refine below_drewN ?_ _) | (with_reducible refine Below.setCell ?_ ?_ _) | (with_reducible refine below_via ‹_› ?_ ?_) | (with_reducible refine below_grow ?_ ?_ _ _) | omega | (simp; done) | (simp; omega)))) 45 1 (by first | rfl | (rw [World.size_alloc]; rfl)) (one_encSector _) (by unfold maxLen; omega) (by omega) ?_; intro v1 w4 hA1)
        go_roundw
        case rel => exact ⟨k + 1, by omega, by go_num, by rw [HE.out]; exact hA1⟩
        case measure => simp [intOf]; omega
    · have hd := HA.out.done (fun _ => rfl) hHB.out (by omega)
      rw [HS.out k (by omega)] at hd
      have HD := hid hd
      clear hd
      go_wp2
      go_ret2
      rw [HL.out.1, HL.out.2]
      exact ⟨_, rfl, HD.out.1, HD.out.2⟩
end Go.Proofs.YtabbhlehbhadiaaGreatDoor
