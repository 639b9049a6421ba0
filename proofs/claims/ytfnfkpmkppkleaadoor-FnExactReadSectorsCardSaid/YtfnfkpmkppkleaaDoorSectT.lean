/- The text of sectors, the reference's side. -/
import Derived.Test.YtfnfkpmkppkleaaDoorPointT
import Derived.Test.YtfnfkpmkppkleaaDoorWorkT
import Derived.Test.YtfnfkpmkppkleaaDoorSectsW
import Derived.Test.YtfnfkpmkppkleaaDoorTSector
import Derived.Deep.RegionHeld3
namespace Go.Proofs.YtfnfkpmkppkleaaDoor
open Go.RowKit Go.Sort
set_option linter.unusedVariables false
set_option maxRecDepth 100000

def secL (d : SectorD) : List UInt8 := Lib.itoa d.fFrom ++ 45 :: (Lib.itoa d.fTo ++ d.fColor.data.toList)
def secS (d : SectorD) : ByteArray := decS d.fFrom ++ ⟨#[45]⟩ ++ decS d.fTo ++ d.fColor
theorem secS_bs (d : SectorD) : secS d = bs (secL d) := by
  have e : (⟨#[45]⟩ : ByteArray) = bs [45] := rfl
  rw [secS, decS_bs, decS_bs, e, ← bs_self d.fColor, bs_app, bs_app, bs_app, secL]; simp
def secsL (xs : List SectorD) : List UInt8 := jn 44 (xs.map secL)
def secsT (xs : List SectorD) : List UInt8 := if xs = [] then [45] else secsL xs
def secsR (xs : List SectorD) : ByteArray := if secB xs then bs (secsT xs) else ⟨#[]⟩
theorem secB_in {xs : List SectorD} (h : secB xs = true) : xs.length ≤ 12 ∧ ∀ x ∈ xs, x.fColor.size = 1 ∧ (0 ≤ x.fFrom ∧ x.fFrom ≤ 359) ∧ (0 ≤ x.fTo ∧ x.fTo ≤ 359) := by
  simp only [secB, Bool.and_eq_true, decide_eq_true_eq, allB_iff] at h
  refine ⟨by omega, fun x hx => ?_⟩
  obtain ⟨i, hi, rfl⟩ := List.mem_iff_getElem.1 hx
  have h1 := h.2.1 i hi
  have h2 := stepS_bd h1 hi
  simp only [stepS, Bool.and_eq_true, oA_get hi, sectB] at h1
  rw [fA_get hi, tA_get hi] at h2
  exact ⟨colB_one h1.1.2.2, ⟨h2.1, h2.2.1⟩, h2.2.2⟩
theorem secS_size {d : SectorD} (hf : I64 d.fFrom) (ht : I64 d.fTo) (hc : d.fColor.size = 1) : (secS d).size ≤ 44 := by
  have h1 := decS_size hf
  have h2 := decS_size ht
  rw [secS, ByteArray.size_append, ByteArray.size_append, ByteArray.size_append]
  have : (⟨#[45]⟩ : ByteArray).size = 1 := rfl
  omega
theorem secsL_take {xs : List SectorD} {k : Nat} (h : k < xs.length) : secsL (xs.take (k + 1)) = if k = 0 then secL xs[k] else secsL (xs.take k) ++ 44 :: secL xs[k] := by
  have e : xs.take (k + 1) = xs.take k ++ [xs[k]] := by simp
  rw [e, secsL, List.map_append, List.map_cons, List.map_nil, jn_snoc]
  by_cases hk : k = 0
  · subst hk; simp
  · rw [if_neg hk, if_neg]
    · rfl
    · intro e2
      have h3 : (List.map secL (xs.take k)).length = 0 := by rw [e2]; rfl
      rw [List.length_map, List.length_take] at h3
      omega
theorem secsL_size {xs : List SectorD} (h : ∀ x ∈ xs, (secS x).size ≤ 44) : (secsL xs).length ≤ 45 * xs.length := by
  have : ∀ k, k ≤ xs.length → (secsL (xs.take k)).length ≤ 45 * k := by
    intro k
    induction k with
    | zero => intro _; simp [secsL, jn]
    | succ k ih =>
      intro hk
      have h1 := ih (by omega)
      have h2 := h xs[k] (List.getElem_mem _)
      rw [secS_bs, bs_size] at h2
      rw [secsL_take (show k < xs.length by omega)]
      split
      · omega
      · simp; omega
  have h2 := this xs.length (Nat.le_refl _)
  rw [List.take_length] at h2
  exact h2
set_option maxHeartbeats 4000000 in
theorem c_l08Text (v : Value) (xs : List SectorD) (w : World) (h : SlA w 0 3 encSector v xs) (hok : ∀ x ∈ xs, okSector x) (hs1 : ∀ x ∈ xs, x.fColor.size = 1) (hl : xs.length ≤ 12) :
    Calls Tryd.prog 81 #[v] w fun e w' => e = .returned (.string (bs (secsT xs))) ∧ Below w.heap.size w w' := by
  by_cases h0 : xs = []
  · subst h0
    obtain ⟨ad, cap, rfl⟩ := h.form
    have HL := hid (show bs (secsT []) = ⟨#[45]⟩ by simp [secsT, bs])
    go_enter Tryd.func81, Tryd.ntmps81
    go_wp2
    go_ret
    rw [HL.out]
    exact ⟨rfl, by (repeat' (first | (with_reducible exact Below.refl _ _) | (with_reducible refine Below.alloc ?_ ?_ _) | (with_reducible refine Below.drew ?_) | (with_reducible refine below_drewN ?_ _) | (with_reducible refine Below.setCell ?_ ?_ _) | (with_reducible refine below_via ‹_› ?_ ?_) | (with_reducible refine below_grow ?_ ?_ _ _) | omega | (simp; done) | (simp; omega)))⟩
  · have hp : 0 < xs.length := by cases xs with | nil => exact absurd rfl h0 | cons a l => simp
    have HL := hid (show secsT xs = secsL xs by rw [secsT, if_neg h0])
    rcases h with ⟨a', c', e', hx', _⟩ | ⟨b, off, cap, rfl, _, hc, hm, _, hb, hx⟩
    · exact absurd hx' h0
    have hz : ((xs.length : Int) == 0) = false := by rw [beq_eq_false_iff_ne]; omega
    clear h0
    go_enter Tryd.func81, Tryd.ntmps81
    go_wp2
    go_loopw [3, 4] (fun t i wr => ∃ (k : Nat) (s : ByteArray), k ≤ xs.length ∧ i = .int .i64 k ∧ t = .string s ∧ s = bs (secsL (xs.take k)) ∧ s.size ≤ 45 * k ∧ Below w.heap.size w wr) (fun _ i _ => xs.length - (intOf i).toNat)
    case atStart => exact ⟨0, ⟨#[]⟩, Nat.zero_le _, rfl, rfl, rfl, Nat.le_refl 0, Below.refl _ _⟩
    case round =>
      obtain ⟨k, s, hk, rfl, rfl, hs, hsz, hB⟩ := hrel
      have hzr := hB.size
      by_cases hlt : k < xs.length
      · have hlI : (k : Int) < xs.length := by omega
        have g0 := (hB.cell (p := ⟨b, off + k * 3 + 0, none⟩) hb).trans (hx k hlt 0 (by omega))
        have g1 := (hB.cell (p := ⟨b, off + k * 3 + 1, none⟩) hb).trans (hx k hlt 1 (by omega))
        have g2 := (hB.cell (p := ⟨b, off + k * 3 + 2, none⟩) hb).trans (hx k hlt 2 (by omega))
        simp only [encSector, List.getD_cons_zero, List.getD_cons_succ, Nat.add_zero] at g0 g1 g2
        obtain ⟨hI0, hI1, -⟩ := hok _ (List.getElem_mem hlt)
        have hI2 := hs1 _ (List.getElem_mem hlt)
        have hS := secS_size hI0 hI1 hI2
        have hD := hid (secS_bs xs[k])
        obtain ⟨f, hf⟩ : ∃ f, f = xs[k].fFrom := ⟨_, rfl⟩
        obtain ⟨t, ht⟩ : ∃ t, t = xs[k].fTo := ⟨_, rfl⟩
        obtain ⟨c, hcc⟩ : ∃ c, c = xs[k].fColor := ⟨_, rfl⟩
        have hDD := hid (show secS xs[k] = decS f ++ ⟨#[45]⟩ ++ decS t ++ c by rw [secS, hf, ht, hcc])
        rw [← hf] at g0 hI0
        rw [← ht] at g1 hI1
        rw [← hcc] at g2 hI2
        have q0 := cellr g0
        have q1 := cellr g1
        have q2 := cellr g2
        have z0 := decS_size hI0
        have z1 := decS_size hI1
        have HT := hid (secsL_take hlt)
        have HS := hid hs
        have hbr : b < wr.heap.size := by omega
        obtain ⟨r1, r1'⟩ := big_no (n := (decS f).size) (by omega)
        obtain ⟨r2, r2'⟩ := big_no (n := (decS f).size + 1) (by omega)
        obtain ⟨r3, r3'⟩ := big_no (n := (decS f).size + 1 + (decS t).size) (by omega)
        obtain ⟨r4, r4'⟩ := big_no (n := (decS f).size + 1 + (decS t).size + c.size) (by omega)
        obtain ⟨r5, r5'⟩ := big_no (n := s.size + ((decS f).size + 1 + (decS t).size + c.size)) (by omega)
        obtain ⟨r6, r6'⟩ := big_no (n := s.size + 1 + ((decS f).size + 1 + (decS t).size + c.size)) (by omega)
        obtain ⟨r7, r7'⟩ := big_no (n := s.size + 1) (by omega)
        obtain ⟨r8, r8'⟩ := big_no (n := s.size) (by omega)
        clear hs hx hf ht hcc
        cases hk0 : decide (0 < k)
        · have hkz : k = 0 := by simpa using hk0
          have HZ := hid (show s ++ (decS f ++ ⟨#[45]⟩ ++ decS t ++ c) = bs (secsL (xs.take (k + 1))) ∧ (s ++ (decS f ++ ⟨#[45]⟩ ++ decS t ++ c)).size ≤ 45 * (k + 1) by
            rw [← hDD.out]
            refine ⟨?_, ?_⟩
            · rw [HT.out, if_pos hkz, HS.out, hD.out, show xs.take k = [] by rw [hkz]; rfl]; show bs [] ++ _ = _; rw [bs_app]; rfl
            · rw [ByteArray.size_append]; omega)
          clear hkz
          go_wp2
          (refine wp_region_quiet_below (by kernel_rfl) (by kernel_rfl) ?_; (repeat (first | go_big_quiet_step ((first | (go_at_call 131; exact regrown_of (c_l01Dec _ _ (by first | assumption | (unfold I64; omega)))))) | quiet_step ((first | (go_at_call 131; exact regrown_of (c_l01Dec _ _ (by first | assumption | (unfold I64; omega)))))))); refine wpQuiet_nil ?_; intro w1 hw'; have hb := below_of_regrown hw'; clear hw'; obtain ⟨hc, hf⟩ := bcell hb; have hz := hb.size; (try simp at hz); (try have hz0 : ∀ b, b < w.heap.size → b < w1.heap.size := fun b h => by omega); (try have hz1 : w.heap.size < w1.heap.size := by omega); (try have hz2 : w.heap.size + 1 < w1.heap.size := by omega); (try have hz3 : w.heap.size + 2 < w1.heap.size := by omega))
          go_wp2
          go_roundw
          case rel => exact ⟨k + 1, _, by omega, by go_num, rfl, HZ.out.1, HZ.out.2, by (repeat' (first | (with_reducible exact Below.refl _ _) | (with_reducible refine Below.alloc ?_ ?_ _) | (with_reducible refine Below.drew ?_) | (with_reducible refine below_drewN ?_ _) | (with_reducible refine Below.setCell ?_ ?_ _) | (with_reducible refine below_via ‹_› ?_ ?_) | (with_reducible refine below_grow ?_ ?_ _ _) | omega | (simp; done) | (simp; omega)))⟩
          case measure => simp [intOf]; omega
        · have hkz : ¬ k = 0 := by have : 0 < k := by simpa using hk0
                                   omega
          have HZ := hid (show s ++ ⟨#[44]⟩ ++ (decS f ++ ⟨#[45]⟩ ++ decS t ++ c) = bs (secsL (xs.take (k + 1))) ∧ (s ++ ⟨#[44]⟩ ++ (decS f ++ ⟨#[45]⟩ ++ decS t ++ c)).size ≤ 45 * (k + 1) by
            have e44 : (⟨#[44]⟩ : ByteArray) = bs [44] := rfl
            rw [← hDD.out]
            refine ⟨?_, ?_⟩
            · rw [HT.out, if_neg hkz, HS.out, hD.out, e44, bs_app, bs_app]; simp
            · rw [ByteArray.size_append, ByteArray.size_append]; have : (⟨#[44]⟩ : ByteArray).size = 1 := rfl
              omega)
          clear hkz
          go_wp2
          (refine wp_region_quiet_below (by kernel_rfl) (by kernel_rfl) ?_; (repeat (first | go_big_quiet_step ((first | (go_at_call 131; exact regrown_of (c_l01Dec _ _ (by first | assumption | (unfold I64; omega)))))) | quiet_step ((first | (go_at_call 131; exact regrown_of (c_l01Dec _ _ (by first | assumption | (unfold I64; omega)))))))); refine wpQuiet_nil ?_; intro w1 hw'; have hb := below_of_regrown hw'; clear hw'; obtain ⟨hc, hf⟩ := bcell hb; have hz := hb.size; (try simp at hz); (try have hz0 : ∀ b, b < w.heap.size → b < w1.heap.size := fun b h => by omega); (try have hz1 : w.heap.size < w1.heap.size := by omega); (try have hz2 : w.heap.size + 1 < w1.heap.size := by omega); (try have hz3 : w.heap.size + 2 < w1.heap.size := by omega))
          go_wp2
          go_roundw
          case rel => exact ⟨k + 1, _, by omega, by go_num, rfl, HZ.out.1, HZ.out.2, by (repeat' (first | (with_reducible exact Below.refl _ _) | (with_reducible refine Below.alloc ?_ ?_ _) | (with_reducible refine Below.drew ?_) | (with_reducible refine below_drewN ?_ _) | (with_reducible refine Below.setCell ?_ ?_ _) | (with_reducible refine below_via ‹_› ?_ ?_) | (with_reducible refine below_grow ?_ ?_ _ _) | omega | (simp; done) | (simp; omega)))⟩
          case measure => simp [intOf]; omega
      · have e : k = xs.length := by omega
        have hr : s = bs (secsL xs) := by rw [e, List.take_length] at hs; exact hs
        have HR := hid hr
        have hlI : ¬ (k : Int) < xs.length := by omega
        clear hr hs e
        go_wp2
        go_ret
        rw [HL.out, ← HR.out]
        exact ⟨rfl, by (repeat' (first | (with_reducible exact Below.refl _ _) | (with_reducible refine Below.alloc ?_ ?_ _) | (with_reducible refine Below.drew ?_) | (with_reducible refine below_drewN ?_ _) | (with_reducible refine Below.setCell ?_ ?_ _) | (with_reducible refine below_via ‹_› ?_ ?_) | (with_reducible refine below_grow ?_ ?_ _ _) | omega | (simp; done) | (simp; omega)))⟩
theorem c_spec_SectorsText (v : Value) (xs : List SectorD) (w : World) (h : SlA w 0 3 encSector v xs) (hok : ∀ x ∈ xs, okSector x) :
    Calls Tryd.prog 29 #[v] w fun e w' => e = .returned (.string (secsR xs)) ∧ Below w.heap.size w w' := by
  cases hq : secB xs
  · have HR := hid (show secsR xs = ⟨#[]⟩ by rw [secsR, hq]; rfl)
    go_enter Tryd.func29, Tryd.ntmps29
    go_wp2_with (first | (go_at_call 80; refine (c_l08Ok _ _ _ (by first | (with_reducible assumption) | (with_reducible apply SlO.at; (with_reducible assumption); (repeat' (first | (with_reducible exact Below.refl _ _) | (with_reducible refine Below.alloc ?_ ?_ _) | (with_reducible refine Below.drew ?_) | (with_reducible refine below_drewN ?_ _) | (with_reducible refine Below.setCell ?_ ?_ _) | (with_reducible refine below_via ‹_› ?_ ?_) | (with_reducible refine below_grow ?_ ?_ _ _) | omega | (simp; done) | (simp; omega))); done) | (with_reducible apply SlA.at; (with_reducible assumption); (repeat' (first | (with_reducible exact Below.refl _ _) | (with_reducible refine Below.alloc ?_ ?_ _) | (with_reducible refine Below.drew ?_) | (with_reducible refine below_drewN ?_ _) | (with_reducible refine Below.setCell ?_ ?_ _) | (with_reducible refine below_via ‹_› ?_ ?_) | (with_reducible refine below_grow ?_ ?_ _ _) | omega | (simp; done) | (simp; omega))); done)) (by assumption)).mono ?_; rintro e w1 ⟨rfl, hb⟩; obtain ⟨hc, hf⟩ := bcell hb; have hz := hb.size; (try simp at hz); (try have hz0 : ∀ b, b < w.heap.size → b < w1.heap.size := fun b h => by omega); (try have hz1 : w.heap.size < w1.heap.size := by omega); (try have hz2 : w.heap.size + 1 < w1.heap.size := by omega); (try have hz3 : w.heap.size + 2 < w1.heap.size := by omega)))
    go_ret
    rw [HR.out]
    exact ⟨rfl, by (repeat' (first | (with_reducible exact Below.refl _ _) | (with_reducible refine Below.alloc ?_ ?_ _) | (with_reducible refine Below.drew ?_) | (with_reducible refine below_drewN ?_ _) | (with_reducible refine Below.setCell ?_ ?_ _) | (with_reducible refine below_via ‹_› ?_ ?_) | (with_reducible refine below_grow ?_ ?_ _ _) | omega | (simp; done) | (simp; omega)))⟩
  · have HR := hid (show secsR xs = bs (secsT xs) by rw [secsR, hq]; rfl)
    obtain ⟨h12, hin⟩ := secB_in hq
    have h1 : ∀ x ∈ xs, x.fColor.size = 1 := fun x hx => (hin x hx).1
    clear hin
    go_enter Tryd.func29, Tryd.ntmps29
    go_wp2_with (first | (go_at_call 80; refine (c_l08Ok _ _ _ (by first | (with_reducible assumption) | (with_reducible apply SlO.at; (with_reducible assumption); (repeat' (first | (with_reducible exact Below.refl _ _) | (with_reducible refine Below.alloc ?_ ?_ _) | (with_reducible refine Below.drew ?_) | (with_reducible refine below_drewN ?_ _) | (with_reducible refine Below.setCell ?_ ?_ _) | (with_reducible refine below_via ‹_› ?_ ?_) | (with_reducible refine below_grow ?_ ?_ _ _) | omega | (simp; done) | (simp; omega))); done) | (with_reducible apply SlA.at; (with_reducible assumption); (repeat' (first | (with_reducible exact Below.refl _ _) | (with_reducible refine Below.alloc ?_ ?_ _) | (with_reducible refine Below.drew ?_) | (with_reducible refine below_drewN ?_ _) | (with_reducible refine Below.setCell ?_ ?_ _) | (with_reducible refine below_via ‹_› ?_ ?_) | (with_reducible refine below_grow ?_ ?_ _ _) | omega | (simp; done) | (simp; omega))); done)) (by assumption)).mono ?_; rintro e w1 ⟨rfl, hb⟩; obtain ⟨hc, hf⟩ := bcell hb; have hz := hb.size; (try simp at hz); (try have hz0 : ∀ b, b < w.heap.size → b < w1.heap.size := fun b h => by omega); (try have hz1 : w.heap.size < w1.heap.size := by omega); (try have hz2 : w.heap.size + 1 < w1.heap.size := by omega); (try have hz3 : w.heap.size + 2 < w1.heap.size := by omega)) | (go_at_call 81; refine (c_l08Text _ xs _ (by first | (with_reducible assumption) | (with_reducible apply SlO.at; (with_reducible assumption); (repeat' (first | (with_reducible exact Below.refl _ _) | (with_reducible refine Below.alloc ?_ ?_ _) | (with_reducible refine Below.drew ?_) | (with_reducible refine below_drewN ?_ _) | (with_reducible refine Below.setCell ?_ ?_ _) | (with_reducible refine below_via ‹_› ?_ ?_) | (with_reducible refine below_grow ?_ ?_ _ _) | omega | (simp; done) | (simp; omega))); done) | (with_reducible apply SlA.at; (with_reducible assumption); (repeat' (first | (with_reducible exact Below.refl _ _) | (with_reducible refine Below.alloc ?_ ?_ _) | (with_reducible refine Below.drew ?_) | (with_reducible refine below_drewN ?_ _) | (with_reducible refine Below.setCell ?_ ?_ _) | (with_reducible refine below_via ‹_› ?_ ?_) | (with_reducible refine below_grow ?_ ?_ _ _) | omega | (simp; done) | (simp; omega))); done)) hok h1 h12).mono ?_; rintro e w2 ⟨rfl, hb2⟩; have hz3 := hb2.size))
    go_ret
    rw [HR.out]
    exact ⟨rfl, by (repeat' (first | (with_reducible exact Below.refl _ _) | (with_reducible refine Below.alloc ?_ ?_ _) | (with_reducible refine Below.drew ?_) | (with_reducible refine below_drewN ?_ _) | (with_reducible refine Below.setCell ?_ ?_ _) | (with_reducible refine below_via ‹_› ?_ ?_) | (with_reducible refine below_grow ?_ ?_ _ _) | omega | (simp; done) | (simp; omega)))⟩
end Go.Proofs.YtfnfkpmkppkleaaDoor
