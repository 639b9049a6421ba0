/- Items: validity, equality, the text with a key, on both sides. -/
import Derived.Test.YtabbhlehbhadiaaDoorTItem
namespace Go.Proofs.YtabbhlehbhadiaaDoor
open Go.RowKit Go.Sort
set_option maxRecDepth 100000

def itemB (k t : ByteArray) : Bool := nameB k && decide ((t.size : Int) ≤ 400)
def itemD (d : ItemD) : Bool := itemB d.fKey d.fText
def itemsB (xs : List ItemD) : Bool := risesB itemD ItemD.fKey 40 xs

theorem c_l24One (bk off : Nat) (k t : ByteArray) (w : World) (hk : k.size ≤ maxLen) (ht : t.size ≤ maxLen) (h0 : w.cell? ⟨bk, off, none⟩ = some (.string k)) (h1 : w.cell? ⟨bk, off + 1, none⟩ = some (.string t)) :
    Calls Tryd.prog 27 #[.pointer (some ⟨bk, off, none⟩)] w fun e w' => e = .returned (.bool (itemB k t)) ∧ w = w' := by
  have ht' := ht
  unfold maxLen at ht'
  cases hq1 : nameB k
  · go_enter Tryd.func27, Tryd.ntmps27
    go_wp2_with (first | (go_at_call 37; refine (c_l01Name _ _ (by assumption)).mono ?_; rintro e w' ⟨rfl, rfl⟩))
    go_ret
    exact ⟨ret_bool (by simp [itemB, *]), rfl⟩
  cases hq2 : decide ((t.size : Int) ≤ 400)
  · go_enter Tryd.func27, Tryd.ntmps27
    go_wp2_with (first | (go_at_call 37; refine (c_l01Name _ _ (by assumption)).mono ?_; rintro e w' ⟨rfl, rfl⟩))
    go_ret
    exact ⟨ret_bool (by simp [itemB, *]), rfl⟩
  go_enter Tryd.func27, Tryd.ntmps27
  go_wp2_with (first | (go_at_call 37; refine (c_l01Name _ _ (by assumption)).mono ?_; rintro e w' ⟨rfl, rfl⟩))
  go_ret
  exact ⟨ret_bool (by simp [itemB, *]), rfl⟩
set_option maxHeartbeats 1000000 in
theorem c_l24Ok (v : Value) (xs : List ItemD) (w : World) (h : SlA w 0 2 encItem v xs) (hok : ∀ x ∈ xs, okItem x) :
    Calls Tryd.prog 15 #[v] w fun e w' => e = .returned (.bool (itemsB xs)) ∧ Below w.heap.size w w' := by
  obtain ⟨ad, cap, b, off, rfl, hm, had, hx⟩ := h.uni
  go_enter Tryd.func15, Tryd.ntmps15
  go_wp2
  go_loopw [3] (fun i wr => ∃ k : Nat, k ≤ xs.length ∧ i = .int .i64 k ∧ (∀ i, i < k → stepB itemD ItemD.fKey xs i = true) ∧ Below w.heap.size w wr) (fun i _ => xs.length - (intOf i).toNat)
  case atStart => exact ⟨0, Nat.zero_le _, rfl, fun i hi => by omega, by (repeat' (first | (with_reducible exact Below.refl _ _) | (with_reducible refine Below.alloc ?_ ?_ _) | (with_reducible refine Below.drew ?_) | (with_reducible refine below_drewN ?_ _) | (with_reducible refine Below.setCell ?_ ?_ _) | (with_reducible refine below_via ‹_› ?_ ?_) | (with_reducible refine below_grow ?_ ?_ _ _) | omega | (simp; done) | (simp; omega)))⟩
  case round =>
    obtain ⟨k, hk, rfl, ha, hB⟩ := hrel
    have HA := hid ha; clear ha
    by_cases hlt : k < xs.length
    · have hlI : (k : Int) < xs.length := by omega
      obtain ⟨rfl, hbb, -, hcc, hmc⟩ := had (by omega)
      have g0 := (hB.cell (p := ⟨b, off + k * 2 + 0, none⟩) hbb).trans (hx k hlt 0 (by omega))
      have g1 := (hB.cell (p := ⟨b, off + k * 2 + 1, none⟩) hbb).trans (hx k hlt 1 (by omega))
      simp only [encItem, List.getD_cons_zero, List.getD_cons_succ, Nat.add_zero] at g0 g1
      obtain ⟨o1, o2⟩ := hok xs[k] (List.getElem_mem hlt)
      by_cases hk0 : k = 0
      · subst hk0
        have HS := hid (stepB_zero itemD ItemD.fKey xs hlt)
        simp only [Nat.zero_mul, Nat.add_zero] at g0 g1
        clear hx
        cases hq1 : itemB xs[0].fKey xs[0].fText
        · go_wp2
          go_quiet ((first | (go_at_call 27; exact quiet_bool (c_l24One _ _ _ _ _ o1 o2 (by simpa using g0) (by simpa using g1)) (by assumption))))
          go_wp2
          first
            | (go_ret; exact ⟨ret_bool (by rw [itemsB, risesB, allB_false (k := 0) (by rw [HS.out]; exact hq1) hlt]; rfl), by (repeat' (first | (with_reducible exact Below.refl _ _) | (with_reducible refine Below.alloc ?_ ?_ _) | (with_reducible refine Below.drew ?_) | (with_reducible refine below_drewN ?_ _) | (with_reducible refine Below.setCell ?_ ?_ _) | (with_reducible refine below_via ‹_› ?_ ?_) | (with_reducible refine below_grow ?_ ?_ _ _) | omega | (simp; done) | (simp; omega)))⟩)
            | (go_roundw
               case rel => exact ⟨1, by omega, rfl, all_one (by rw [HS.out]; exact hq1), by (repeat' (first | (with_reducible exact Below.refl _ _) | (with_reducible refine Below.alloc ?_ ?_ _) | (with_reducible refine Below.drew ?_) | (with_reducible refine below_drewN ?_ _) | (with_reducible refine Below.setCell ?_ ?_ _) | (with_reducible refine below_via ‹_› ?_ ?_) | (with_reducible refine below_grow ?_ ?_ _ _) | omega | (simp; done) | (simp; omega)))⟩
               case measure => simp [intOf]; omega)
        go_wp2
        go_quiet ((first | (go_at_call 27; exact quiet_bool (c_l24One _ _ _ _ _ o1 o2 (by simpa using g0) (by simpa using g1)) (by assumption))))
        go_wp2
        first
          | (go_ret; exact ⟨ret_bool (by rw [itemsB, risesB, allB_false (k := 0) (by rw [HS.out]; exact hq1) hlt]; rfl), by (repeat' (first | (with_reducible exact Below.refl _ _) | (with_reducible refine Below.alloc ?_ ?_ _) | (with_reducible refine Below.drew ?_) | (with_reducible refine below_drewN ?_ _) | (with_reducible refine Below.setCell ?_ ?_ _) | (with_reducible refine below_via ‹_› ?_ ?_) | (with_reducible refine below_grow ?_ ?_ _ _) | omega | (simp; done) | (simp; omega)))⟩)
          | (go_roundw
             case rel => exact ⟨1, by omega, rfl, all_one (by rw [HS.out]; exact hq1), by (repeat' (first | (with_reducible exact Below.refl _ _) | (with_reducible refine Below.alloc ?_ ?_ _) | (with_reducible refine Below.drew ?_) | (with_reducible refine below_drewN ?_ _) | (with_reducible refine Below.setCell ?_ ?_ _) | (with_reducible refine below_via ‹_› ?_ ?_) | (with_reducible refine below_grow ?_ ?_ _ _) | omega | (simp; done) | (simp; omega)))⟩
             case measure => simp [intOf]; omega)
      · have hkI : (0 : Int) < k := by omega
        have hkd : decide (0 < k) = true := by simp; omega
        have hk1 : (1 : Int) ≤ k := by omega
        have hk2 : (k : Int) - 1 < xs.length := by omega
        have hkn := pred_nat (k := k) (by omega)
        have hkw := pred_wrap (k := k) (n := xs.length) (by omega) (by omega) hm
        have HS := hid (stepB_pos itemD ItemD.fKey xs k hlt (by omega))
        have g2 := (hB.cell (p := ⟨b, off + (k - 1) * 2 + 0, none⟩) hbb).trans (hx (k - 1) (by omega) 0 (by omega))
        simp only [encItem, List.getD_cons_zero, Nat.add_zero] at g2
        clear hx
        cases hq1 : itemB xs[k].fKey xs[k].fText
        · go_wp2
          go_quiet ((first | (go_at_call 27; exact quiet_bool (c_l24One _ _ _ _ _ o1 o2 (by simpa using g0) (by simpa using g1)) (by assumption))))
          go_wp2
          first
            | (go_ret; exact ⟨ret_bool (by rw [itemsB, risesB, allB_false (k := k) (by rw [HS.out]; simp [itemD, *]) hlt]; rfl), by (repeat' (first | (with_reducible exact Below.refl _ _) | (with_reducible refine Below.alloc ?_ ?_ _) | (with_reducible refine Below.drew ?_) | (with_reducible refine below_drewN ?_ _) | (with_reducible refine Below.setCell ?_ ?_ _) | (with_reducible refine below_via ‹_› ?_ ?_) | (with_reducible refine below_grow ?_ ?_ _ _) | omega | (simp; done) | (simp; omega)))⟩)
            | (go_roundw
               case rel => exact ⟨k + 1, by omega, by go_num, all_snoc HA.out (by rw [HS.out]; simp [itemD, *]), by (repeat' (first | (with_reducible exact Below.refl _ _) | (with_reducible refine Below.alloc ?_ ?_ _) | (with_reducible refine Below.drew ?_) | (with_reducible refine below_drewN ?_ _) | (with_reducible refine Below.setCell ?_ ?_ _) | (with_reducible refine below_via ‹_› ?_ ?_) | (with_reducible refine below_grow ?_ ?_ _ _) | omega | (simp; done) | (simp; omega)))⟩
               case measure => simp [intOf]; omega)
        cases hq2 : Op.bytesLess xs[k - 1].fKey.toList xs[k].fKey.toList
        · go_wp2
          go_quiet ((first | (go_at_call 27; exact quiet_bool (c_l24One _ _ _ _ _ o1 o2 (by simpa using g0) (by simpa using g1)) (by assumption))))
          go_wp2
          first
            | (go_ret; exact ⟨ret_bool (by rw [itemsB, risesB, allB_false (k := k) (by rw [HS.out]; simp [itemD, *]) hlt]; rfl), by (repeat' (first | (with_reducible exact Below.refl _ _) | (with_reducible refine Below.alloc ?_ ?_ _) | (with_reducible refine Below.drew ?_) | (with_reducible refine below_drewN ?_ _) | (with_reducible refine Below.setCell ?_ ?_ _) | (with_reducible refine below_via ‹_› ?_ ?_) | (with_reducible refine below_grow ?_ ?_ _ _) | omega | (simp; done) | (simp; omega)))⟩)
            | (go_roundw
               case rel => exact ⟨k + 1, by omega, by go_num, all_snoc HA.out (by rw [HS.out]; simp [itemD, *]), by (repeat' (first | (with_reducible exact Below.refl _ _) | (with_reducible refine Below.alloc ?_ ?_ _) | (with_reducible refine Below.drew ?_) | (with_reducible refine below_drewN ?_ _) | (with_reducible refine Below.setCell ?_ ?_ _) | (with_reducible refine below_via ‹_› ?_ ?_) | (with_reducible refine below_grow ?_ ?_ _ _) | omega | (simp; done) | (simp; omega)))⟩
               case measure => simp [intOf]; omega)
        go_wp2
        go_quiet ((first | (go_at_call 27; exact quiet_bool (c_l24One _ _ _ _ _ o1 o2 (by simpa using g0) (by simpa using g1)) (by assumption))))
        go_wp2
        first
          | (go_ret; exact ⟨ret_bool (by rw [itemsB, risesB, allB_false (k := k) (by rw [HS.out]; simp [itemD, *]) hlt]; rfl), by (repeat' (first | (with_reducible exact Below.refl _ _) | (with_reducible refine Below.alloc ?_ ?_ _) | (with_reducible refine Below.drew ?_) | (with_reducible refine below_drewN ?_ _) | (with_reducible refine Below.setCell ?_ ?_ _) | (with_reducible refine below_via ‹_› ?_ ?_) | (with_reducible refine below_grow ?_ ?_ _ _) | omega | (simp; done) | (simp; omega)))⟩)
          | (go_roundw
             case rel => exact ⟨k + 1, by omega, by go_num, all_snoc HA.out (by rw [HS.out]; simp [itemD, *]), by (repeat' (first | (with_reducible exact Below.refl _ _) | (with_reducible refine Below.alloc ?_ ?_ _) | (with_reducible refine Below.drew ?_) | (with_reducible refine below_drewN ?_ _) | (with_reducible refine Below.setCell ?_ ?_ _) | (with_reducible refine below_via ‹_› ?_ ?_) | (with_reducible refine below_grow ?_ ?_ _ _) | omega | (simp; done) | (simp; omega)))⟩
             case measure => simp [intOf]; omega)
    · have HR := hid (show itemsB xs = decide ((xs.length : Int) ≤ 40) by rw [itemsB, risesB, allB_true (fun i hi => HA.out i (by omega))]; rfl)
      clear hx
      go_wp2
      go_ret
      exact ⟨ret_bool HR.out.symm, by (repeat' (first | (with_reducible exact Below.refl _ _) | (with_reducible refine Below.alloc ?_ ?_ _) | (with_reducible refine Below.drew ?_) | (with_reducible refine below_drewN ?_ _) | (with_reducible refine Below.setCell ?_ ?_ _) | (with_reducible refine below_via ‹_› ?_ ?_) | (with_reducible refine below_grow ?_ ?_ _ _) | omega | (simp; done) | (simp; omega)))⟩
/-! ### equality -/
def sameL {α : Type} (enc : α → List (List UInt8)) (xs ys : List α) : Bool := decide (xs.map enc = ys.map enc)
def itemE (d : ItemD) : List (List UInt8) := [d.fKey.toList, d.fText.toList]
theorem all_lt {α : Type} {P : α → α → Prop} {xs ys : List α} {k : Nat} (h : ∀ j, (h1 : j < xs.length) → (h2 : j < ys.length) → j < k → P xs[j] ys[j]) (hk : (h1 : k < xs.length) → (h2 : k < ys.length) → P xs[k] ys[k]) : ∀ j, (h1 : j < xs.length) → (h2 : j < ys.length) → j < k + 1 → P xs[j] ys[j] := fun j h1 h2 hj => by
  by_cases e : j = k
  · subst e; exact hk h1 h2
  · exact h j h1 h2 (by omega)
theorem sameL_false_len {α : Type} (enc : α → List (List UInt8)) (xs ys : List α) (h : ¬ xs.length = ys.length) : sameL enc xs ys = false :=
  decide_eq_false fun hh => h (by have := congrArg List.length hh; simpa using this)
theorem sameL_false_at {α : Type} (enc : α → List (List UInt8)) (xs ys : List α) (k : Nat) (h : k < xs.length) (h' : k < ys.length) (hne : enc xs[k] ≠ enc ys[k]) : sameL enc xs ys = false :=
  decide_eq_false fun hh => hne (by
    have e : (xs.map enc)[k]? = (ys.map enc)[k]? := by rw [hh]
    simpa [h, h'] using e)
theorem sameL_true {α : Type} (enc : α → List (List UInt8)) (xs ys : List α) (hl : xs.length = ys.length) (h : ∀ k, (h1 : k < xs.length) → (h2 : k < ys.length) → enc xs[k] = enc ys[k]) : sameL enc xs ys = true :=
  decide_eq_true (List.ext_getElem (by simpa using hl) fun k h1 h2 => by simpa using h k (by simpa using h1) (by simpa using h2))
theorem itemE_eq {a b : ItemD} (h1 : (a.fKey.toList == b.fKey.toList) = true) (h2 : (a.fText.toList == b.fText.toList) = true) : itemE a = itemE b := by
  simp only [beq_iff_eq] at h1 h2; simp only [itemE, h1, h2]
set_option maxHeartbeats 400000 in
theorem c_same_Item (v v' : Value) (xs ys : List ItemD) (w : World) (h : SlA w 0 2 encItem v xs) (h' : SlA w 0 2 encItem v' ys) :
    Calls Tryd.prog 19 #[v, v'] w fun e w' => e = .returned (.bool (sameL itemE xs ys)) ∧ Below w.heap.size w w' := by
  obtain ⟨ad, cap, b, off, rfl, hm, had, hx⟩ := h.uni
  obtain ⟨ad', cap', b', off', rfl, hm', had', hx'⟩ := h'.uni
  by_cases hl : xs.length = ys.length
  · have hlB : ((xs.length : Int) != (ys.length : Int)) = false := by simp [hl]
    have HL := hid hl
    clear hl
    go_enter Tryd.func19, Tryd.ntmps19
    go_wp2
    go_loopw [13] (fun i wr => ∃ k : Nat, k ≤ xs.length ∧ i = .int .i64 k ∧ (∀ j, (h1 : j < xs.length) → (h2 : j < ys.length) → j < k → itemE xs[j] = itemE ys[j]) ∧ Below w.heap.size w wr) (fun i _ => xs.length - (intOf i).toNat)
    case atStart => exact ⟨0, Nat.zero_le _, rfl, fun j _ _ hj => by omega, by (repeat' (first | (with_reducible exact Below.refl _ _) | (with_reducible refine Below.alloc ?_ ?_ _) | (with_reducible refine Below.drew ?_) | (with_reducible refine below_drewN ?_ _) | (with_reducible refine Below.setCell ?_ ?_ _) | (with_reducible refine below_via ‹_› ?_ ?_) | (with_reducible refine below_grow ?_ ?_ _ _) | omega | (simp; done) | (simp; omega)))⟩
    case round =>
      obtain ⟨k, hk, rfl, ht, hB⟩ := hrel
      have HT := hid ht; clear ht
      by_cases hlt : k < xs.length
      · have hlI : (k : Int) < xs.length := by omega
        have hlt' : k < ys.length := by have := HL.out; omega
        have hlI' : (k : Int) < ys.length := by omega
        obtain ⟨rfl, hbb, -, hcc, hmc⟩ := had (by omega)
        obtain ⟨rfl, hbb', -, hcc', hmc'⟩ := had' (by omega)
        have g0 := (hB.cell (p := ⟨b, off + k * 2 + 0, none⟩) hbb).trans (hx k hlt 0 (by omega))
        have g1 := (hB.cell (p := ⟨b, off + k * 2 + 1, none⟩) hbb).trans (hx k hlt 1 (by omega))
        have k0 := (hB.cell (p := ⟨b', off' + k * 2 + 0, none⟩) hbb').trans (hx' k hlt' 0 (by omega))
        have k1 := (hB.cell (p := ⟨b', off' + k * 2 + 1, none⟩) hbb').trans (hx' k hlt' 1 (by omega))
        simp only [encItem, List.getD_cons_zero, List.getD_cons_succ, Nat.add_zero] at g0 g1 k0 k1
        clear hx hx'
        cases hq1 : (xs[k].fKey.toList == ys[k].fKey.toList)
        · go_wp2
          go_quiet (fail)
          go_wp2
          first
            | (go_ret; exact ⟨ret_bool (sameL_false_at itemE xs ys k hlt hlt' (by simp [itemE]; simp_all)).symm, by (repeat' (first | (with_reducible exact Below.refl _ _) | (with_reducible refine Below.alloc ?_ ?_ _) | (with_reducible refine Below.drew ?_) | (with_reducible refine below_drewN ?_ _) | (with_reducible refine Below.setCell ?_ ?_ _) | (with_reducible refine below_via ‹_› ?_ ?_) | (with_reducible refine below_grow ?_ ?_ _ _) | omega | (simp; done) | (simp; omega)))⟩)
            | (go_roundw
               case rel => exact ⟨k + 1, by omega, by go_num, all_lt (P := fun a b => itemE a = itemE b) HT.out (fun _ _ => itemE_eq hq1 hq2), by (repeat' (first | (with_reducible exact Below.refl _ _) | (with_reducible refine Below.alloc ?_ ?_ _) | (with_reducible refine Below.drew ?_) | (with_reducible refine below_drewN ?_ _) | (with_reducible refine Below.setCell ?_ ?_ _) | (with_reducible refine below_via ‹_› ?_ ?_) | (with_reducible refine below_grow ?_ ?_ _ _) | omega | (simp; done) | (simp; omega)))⟩
               case measure => simp [intOf]; omega)
        cases hq2 : (xs[k].fText.toList == ys[k].fText.toList)
        · go_wp2
          go_quiet (fail)
          go_wp2
          first
            | (go_ret; exact ⟨ret_bool (sameL_false_at itemE xs ys k hlt hlt' (by simp [itemE]; simp_all)).symm, by (repeat' (first | (with_reducible exact Below.refl _ _) | (with_reducible refine Below.alloc ?_ ?_ _) | (with_reducible refine Below.drew ?_) | (with_reducible refine below_drewN ?_ _) | (with_reducible refine Below.setCell ?_ ?_ _) | (with_reducible refine below_via ‹_› ?_ ?_) | (with_reducible refine below_grow ?_ ?_ _ _) | omega | (simp; done) | (simp; omega)))⟩)
            | (go_roundw
               case rel => exact ⟨k + 1, by omega, by go_num, all_lt (P := fun a b => itemE a = itemE b) HT.out (fun _ _ => itemE_eq hq1 hq2), by (repeat' (first | (with_reducible exact Below.refl _ _) | (with_reducible refine Below.alloc ?_ ?_ _) | (with_reducible refine Below.drew ?_) | (with_reducible refine below_drewN ?_ _) | (with_reducible refine Below.setCell ?_ ?_ _) | (with_reducible refine below_via ‹_› ?_ ?_) | (with_reducible refine below_grow ?_ ?_ _ _) | omega | (simp; done) | (simp; omega)))⟩
               case measure => simp [intOf]; omega)
        go_wp2
        go_quiet (fail)
        go_wp2
        first
          | (go_ret; exact ⟨ret_bool (sameL_false_at itemE xs ys k hlt hlt' (by simp [itemE]; simp_all)).symm, by (repeat' (first | (with_reducible exact Below.refl _ _) | (with_reducible refine Below.alloc ?_ ?_ _) | (with_reducible refine Below.drew ?_) | (with_reducible refine below_drewN ?_ _) | (with_reducible refine Below.setCell ?_ ?_ _) | (with_reducible refine below_via ‹_› ?_ ?_) | (with_reducible refine below_grow ?_ ?_ _ _) | omega | (simp; done) | (simp; omega)))⟩)
          | (go_roundw
             case rel => exact ⟨k + 1, by omega, by go_num, all_lt (P := fun a b => itemE a = itemE b) HT.out (fun _ _ => itemE_eq hq1 hq2), by (repeat' (first | (with_reducible exact Below.refl _ _) | (with_reducible refine Below.alloc ?_ ?_ _) | (with_reducible refine Below.drew ?_) | (with_reducible refine below_drewN ?_ _) | (with_reducible refine Below.setCell ?_ ?_ _) | (with_reducible refine below_via ‹_› ?_ ?_) | (with_reducible refine below_grow ?_ ?_ _ _) | omega | (simp; done) | (simp; omega)))⟩
             case measure => simp [intOf]; omega)
      · have HR := hid (sameL_true itemE xs ys HL.out fun j h1 h2 => HT.out j h1 h2 (by omega))
        clear hx hx'
        go_wp2
        go_ret
        exact ⟨ret_bool HR.out.symm, by (repeat' (first | (with_reducible exact Below.refl _ _) | (with_reducible refine Below.alloc ?_ ?_ _) | (with_reducible refine Below.drew ?_) | (with_reducible refine below_drewN ?_ _) | (with_reducible refine Below.setCell ?_ ?_ _) | (with_reducible refine below_via ‹_› ?_ ?_) | (with_reducible refine below_grow ?_ ?_ _ _) | omega | (simp; done) | (simp; omega)))⟩
  · have hlB : ((xs.length : Int) != (ys.length : Int)) = true := by simp; omega
    have HL := hid (sameL_false_len itemE xs ys hl)
    clear hl
    go_enter Tryd.func19, Tryd.ntmps19
    go_wp2
    go_ret
    exact ⟨ret_bool HL.out.symm, by (repeat' (first | (with_reducible exact Below.refl _ _) | (with_reducible refine Below.alloc ?_ ?_ _) | (with_reducible refine Below.drew ?_) | (with_reducible refine below_drewN ?_ _) | (with_reducible refine Below.setCell ?_ ?_ _) | (with_reducible refine below_via ‹_› ?_ ?_) | (with_reducible refine below_grow ?_ ?_ _ _) | omega | (simp; done) | (simp; omega)))⟩
theorem c_impl_SameItems (v v' : Value) (xs ys : List ItemD) (w : World) (h : SlA w 0 2 encItem v xs) (h' : SlA w 0 2 encItem v' ys) :
    Calls Tryd.prog 10 #[v, v'] w fun e w' => e = .returned (.bool (sameL itemE xs ys)) ∧ Below w.heap.size w w' := by
  go_enter Tryd.func10, Tryd.ntmps10
  go_wp2_with (first | (go_at_call 19; refine (c_same_Item _ _ _ _ _ (by first | (with_reducible assumption) | (with_reducible apply SlO.at; (with_reducible assumption); (repeat' (first | (with_reducible exact Below.refl _ _) | (with_reducible refine Below.alloc ?_ ?_ _) | (with_reducible refine Below.drew ?_) | (with_reducible refine below_drewN ?_ _) | (with_reducible refine Below.setCell ?_ ?_ _) | (with_reducible refine below_via ‹_› ?_ ?_) | (with_reducible refine below_grow ?_ ?_ _ _) | omega | (simp; done) | (simp; omega))); done) | (with_reducible apply SlA.at; (with_reducible assumption); (repeat' (first | (with_reducible exact Below.refl _ _) | (with_reducible refine Below.alloc ?_ ?_ _) | (with_reducible refine Below.drew ?_) | (with_reducible refine below_drewN ?_ _) | (with_reducible refine Below.setCell ?_ ?_ _) | (with_reducible refine below_via ‹_› ?_ ?_) | (with_reducible refine below_grow ?_ ?_ _ _) | omega | (simp; done) | (simp; omega))); done)) (by first | (with_reducible assumption) | (with_reducible apply SlO.at; (with_reducible assumption); (repeat' (first | (with_reducible exact Below.refl _ _) | (with_reducible refine Below.alloc ?_ ?_ _) | (with_reducible refine Below.drew ?_) | (with_reducible refine below_drewN ?_ _) | (with_reducible refine Below.setCell ?_ ?_ _) | (with_reducible refine below_via ‹_› ?_ ?_) | (with_reducible refine below_grow ?_ ?_ _ _) | omega | (simp; done) | (simp; omega))); done) | (with_reducible apply SlA.at; (with_reducible assumption); (repeat' (first | (with_reducible exact Below.refl _ _) | (with_reducible refine Below.alloc ?_ ?_ _) | (with_reducible refine Below.drew ?_) | (with_reducible refine below_drewN ?_ _) | (with_reducible refine Below.setCell ?_ ?_ _) | (with_reducible refine below_via ‹_› ?_ ?_) | (with_reducible refine below_grow ?_ ?_ _ _) | omega | (simp; done) | (simp; omega))); done))).mono ?_; rintro e w1 ⟨rfl, hb⟩; obtain ⟨hc, hf⟩ := bcell hb; have hz := hb.size; (try simp at hz); (try have hz0 : ∀ b, b < w.heap.size → b < w1.heap.size := fun b h => by omega); (try have hz1 : w.heap.size < w1.heap.size := by omega); (try have hz2 : w.heap.size + 1 < w1.heap.size := by omega); (try have hz3 : w.heap.size + 2 < w1.heap.size := by omega)))
  go_ret
  exact ⟨rfl, by (repeat' (first | (with_reducible exact Below.refl _ _) | (with_reducible refine Below.alloc ?_ ?_ _) | (with_reducible refine Below.drew ?_) | (with_reducible refine below_drewN ?_ _) | (with_reducible refine Below.setCell ?_ ?_ _) | (with_reducible refine below_via ‹_› ?_ ?_) | (with_reducible refine below_grow ?_ ?_ _ _) | omega | (simp; done) | (simp; omega)))⟩
/-! ### the text with a key -/
theorem bl_irrefl : ∀ x : List UInt8, Op.bytesLess x x = false
  | [] => rfl
  | a :: x => by simp [Op.bytesLess, bl_irrefl x]
theorem bl_trans : ∀ {x y z : List UInt8}, Op.bytesLess x y = true → Op.bytesLess y z = true → Op.bytesLess x z = true
  | [], [], _, h, _ => by simp [Op.bytesLess] at h
  | [], _ :: _, [], _, h => by simp [Op.bytesLess] at h
  | [], _ :: _, _ :: _, _, _ => by simp [Op.bytesLess]
  | _ :: _, [], _, h, _ => by simp [Op.bytesLess] at h
  | _ :: _, _ :: _, [], _, h => by simp [Op.bytesLess] at h
  | a :: x, b :: y, c :: z, h, h' => by
    simp only [Op.bytesLess, Bool.or_eq_true, decide_eq_true_eq, Bool.and_eq_true, beq_iff_eq] at h h' ⊢
    rcases h with h | ⟨h, h1⟩
    · rcases h' with h' | ⟨h', h2⟩
      · exact .inl (UInt8.lt_trans h h')
      · subst h'; exact .inl h
    · subst h
      rcases h' with h' | ⟨h', h2⟩
      · exact .inl h'
      · exact .inr ⟨h', bl_trans h1 h2⟩
/-- the keys of a valid list rise -/
theorem rises_lt {α : Type} {one : α → Bool} {key : α → ByteArray} {most : Int} {xs : List α} (h : risesB one key most xs = true) (j : Nat) (hj : j < xs.length) : ∀ i, (hi : i < j) → Op.bytesLess (key (xs[i]'(by omega))).toList (key xs[j]).toList = true := by
  simp only [risesB, Bool.and_eq_true] at h
  have hs := of_allB h.1
  induction j with
  | zero => intro i hi; omega
  | succ j ih =>
    intro i hi
    have h1 := hs (j + 1) hj
    rw [stepB_pos one key xs (j + 1) hj (by omega), Bool.and_eq_true] at h1
    have h2 := h1.2
    simp only [Nat.add_sub_cancel] at h2
    by_cases e : i = j
    · subst e; exact h2
    · exact bl_trans (ih (by omega) i (by omega)) h2
/-- how many keys are less than one -/
def lowI {α : Type} (key : α → ByteArray) (c : List UInt8) : List α → Nat
  | [] => 0
  | d :: l => if Op.bytesLess (key d).toList c then lowI key c l + 1 else 0
def findK {α : Type} (key : α → ByteArray) (c : List UInt8) : List α → Option α
  | [] => none
  | d :: l => if (key d).toList == c then some d else findK key c l
def textR (xs : List ItemD) (c : ByteArray) : ByteArray := if itemsB xs then (match findK ItemD.fKey c.toList xs with | some d => d.fText | none => ⟨#[]⟩) else ⟨#[]⟩
def textC (xs : List ItemD) (c : ByteArray) : Int := if itemsB xs then (match findK ItemD.fKey c.toList xs with | some _ => 0 | none => 3) else 1
theorem lowI_le {α : Type} (key : α → ByteArray) (c : List UInt8) : ∀ l, lowI key c l ≤ l.length
  | [] => by simp [lowI]
  | d :: l => by have := lowI_le key c l; simp only [lowI]; split <;> simp <;> omega
theorem lowI_step {α : Type} (key : α → ByteArray) (c : List UInt8) (xs : List α) (k : Nat) (h : k < xs.length) : lowI key c (xs.drop k) = if Op.bytesLess (key xs[k]).toList c then lowI key c (xs.drop (k + 1)) + 1 else 0 := by
  rw [drop_cons xs k h]; rfl
theorem findK_step {α : Type} (key : α → ByteArray) (c : List UInt8) (xs : List α) (k : Nat) (h : k < xs.length) : findK key c (xs.drop k) = if (key xs[k]).toList == c then some xs[k] else findK key c (xs.drop (k + 1)) := by
  rw [drop_cons xs k h]; rfl
/-- in a list whose keys rise the first key that is not less is the key, or there is none -/
theorem findK_low {α : Type} {key : α → ByteArray} {c : List UInt8} {xs : List α} (hs : ∀ j, (hj : j < xs.length) → ∀ i, (hi : i < j) → Op.bytesLess (key (xs[i]'(by omega))).toList (key xs[j]).toList = true) :
    findK key c xs = (match xs[lowI key c xs]? with | some d => if (key d).toList == c then some d else none | none => none) := by
  induction xs with
  | nil => rfl
  | cons d l ih =>
    have ih := ih fun j hj i hi => by
      have hh := hs (j + 1) (by simp only [List.length_cons]; omega) (i + 1) (by omega)
      simp only [List.getElem_cons_succ] at hh
      exact hh
    by_cases hl : Op.bytesLess (key d).toList c = true
    · have hne : ((key d).toList == c) = false := by
        cases hh : (key d).toList == c
        · rfl
        · rw [beq_iff_eq] at hh; rw [hh, bl_irrefl] at hl; cases hl
      simp only [findK, lowI, hne, hl, if_true, List.getElem?_cons_succ]
      simpa using ih
    · have hl' : Op.bytesLess (key d).toList c = false := by simpa using hl
      simp only [findK, lowI, hl', Bool.false_eq_true, if_false, List.getElem?_cons_zero]
      by_cases he : ((key d).toList == c) = true
      · simp [he]
      · have he' : ((key d).toList == c) = false := by simpa using he
        simp only [he', Bool.false_eq_true, if_false]
        -- all later keys are greater than d's, and d's is not less than c
        rw [ih]
        cases hm : l[lowI key c l]? with
        | none => rfl
        | some x =>
          simp only
          obtain ⟨hlt, hx⟩ := List.getElem?_eq_some_iff.1 hm
          have h1 := hs (lowI key c l + 1) (by simpa using hlt) 0 (by omega)
          simp only [List.getElem_cons_zero, List.getElem_cons_succ, hx] at h1
          by_cases hc : ((key x).toList == c) = true
          · rw [beq_iff_eq] at hc; rw [hc, hl'] at h1; cases h1
          · simp [hc]
def hitB (xs : List ItemD) (c : List UInt8) : Bool := match xs[lowI ItemD.fKey c xs]? with | some d => (d.fKey.toList == c) | none => false
end Go.Proofs.YtabbhlehbhadiaaDoor
