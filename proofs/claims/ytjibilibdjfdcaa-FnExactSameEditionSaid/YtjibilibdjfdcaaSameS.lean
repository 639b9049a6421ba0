/- Equality of lists of sectors, on both sides. -/
import Derived.Test.YtjibilibdjfdcaaTSector
namespace Go.Proofs.Ytjibilibdjfdcaa
open Go.RowKit Go.Sort
set_option linter.unusedVariables false
set_option maxRecDepth 100000

def secE (d : SectorD) : Int × Int × List UInt8 := (d.fFrom, d.fTo, d.fColor.toList)
def sameG {α β : Type} [DecidableEq β] (e : α → β) (xs ys : List α) : Bool := decide (xs.map e = ys.map e)
theorem sameG_false_len {α β : Type} [DecidableEq β] (e : α → β) (xs ys : List α) (h : ¬ xs.length = ys.length) : sameG e xs ys = false :=
  decide_eq_false fun hh => h (by have := congrArg List.length hh; simpa using this)
theorem sameG_false_at {α β : Type} [DecidableEq β] (e : α → β) (xs ys : List α) (k : Nat) (h : k < xs.length) (h' : k < ys.length) (hne : e xs[k] ≠ e ys[k]) : sameG e xs ys = false :=
  decide_eq_false fun hh => hne (by
    have q : (xs.map e)[k]? = (ys.map e)[k]? := by rw [hh]
    simpa [h, h'] using q)
theorem sameG_true {α β : Type} [DecidableEq β] (e : α → β) (xs ys : List α) (hl : xs.length = ys.length) (h : ∀ k, (h1 : k < xs.length) → (h2 : k < ys.length) → e xs[k] = e ys[k]) : sameG e xs ys = true :=
  decide_eq_true (List.ext_getElem (by simpa using hl) fun k h1 h2 => by simpa using h k (by simpa using h1) (by simpa using h2))
theorem sameG_refl {α β : Type} [DecidableEq β] (e : α → β) (xs : List α) : sameG e xs xs = true := decide_eq_true rfl
theorem all_ltG {α : Type} {P : α → α → Prop} {xs ys : List α} {k : Nat} (h : ∀ j, (h1 : j < xs.length) → (h2 : j < ys.length) → j < k → P xs[j] ys[j]) (hk : ∀ (h1 : k < xs.length) (h2 : k < ys.length), P xs[k] ys[k]) : ∀ j, (h1 : j < xs.length) → (h2 : j < ys.length) → j < k + 1 → P xs[j] ys[j] := fun j h1 h2 hj => by
  by_cases e : j = k
  · subst e; exact hk h1 h2
  · exact h j h1 h2 (by omega)
theorem secE_eq {a b : SectorD} (h1 : (a.fFrom == b.fFrom) = true) (h2 : (a.fTo == b.fTo) = true) (h3 : (a.fColor.toList == b.fColor.toList) = true) : secE a = secE b := by
  simp only [beq_iff_eq] at h1 h2 h3; simp only [secE, h1, h2, h3]
theorem secE_ne1 {a b : SectorD} (h1 : (a.fFrom == b.fFrom) = false) : secE a ≠ secE b := fun e => by simp only [secE, Prod.mk.injEq] at e; simp [e.1] at h1
theorem secE_ne2 {a b : SectorD} (h1 : (a.fTo == b.fTo) = false) : secE a ≠ secE b := fun e => by simp only [secE, Prod.mk.injEq] at e; simp [e.2.1] at h1
theorem secE_ne3 {a b : SectorD} (h1 : (a.fColor.toList == b.fColor.toList) = false) : secE a ≠ secE b := fun e => by simp only [secE, Prod.mk.injEq] at e; simp [e.2.2] at h1
set_option maxHeartbeats 1000000 in
theorem c_spec_SameSectors (v v' : Value) (xs ys : List SectorD) (w : World) (h : SlA w 0 3 encSector v xs) (h' : SlA w 0 3 encSector v' ys) :
    Calls Try.prog 42 #[v, v'] w fun e w' => e = .returned (.bool (sameG secE xs ys)) ∧ Below w.heap.size w w' := by
  obtain ⟨ad, cap, b, off, rfl, hm, had, hx⟩ := h.uni
  obtain ⟨ad', cap', b', off', rfl, hm', had', hx'⟩ := h'.uni
  by_cases hl : xs.length = ys.length
  · have hlB : ((xs.length : Int) != (ys.length : Int)) = false := by simp [hl]
    have HL := hid hl
    clear hl
    go_enter Try.func42, Try.ntmps42
    go_wp2
    go_loopw [5] (fun i wr => ∃ k : Nat, k ≤ xs.length ∧ i = .int .i64 k ∧ (∀ j, (h1 : j < xs.length) → (h2 : j < ys.length) → j < k → secE xs[j] = secE ys[j]) ∧ Below w.heap.size w wr) (fun i _ => xs.length - (intOf i).toNat)
    case atStart => exact ⟨0, Nat.zero_le _, rfl, fun j _ _ hj => by omega, by (repeat' (first | (with_reducible exact Below.refl _ _) | (with_reducible refine Below.alloc ?_ ?_ _) | (with_reducible refine Below.drew ?_) | (with_reducible refine below_drewN ?_ _) | (with_reducible refine Below.setCell ?_ ?_ _) | (with_reducible refine below_via ‹_› ?_ ?_) | (with_reducible refine below_grow ?_ ?_ _ _) | omega | (simp; done) | (simp; omega)))⟩
    case round =>
      obtain ⟨k, hk, rfl, ht, hB⟩ := hrel
      have HT := hid ht; clear ht
      by_cases hlt : k < xs.length
      · have hlI : (k : Int) < xs.length := by omega
        have hlt' : k < ys.length := by have := HL.out; omega
        have hlI' : (k : Int) < ys.length := by omega
        obtain ⟨rfl, hbb, -, hcc, hmc⟩ := had (by omega)
        obtain ⟨rfl, hbb', -, hcc', hmc'⟩ := had' (by omega)
        have g0 := (hB.cell (p := ⟨b, off + k * 3 + 0, none⟩) hbb).trans (hx k hlt 0 (by omega))
        have g1 := (hB.cell (p := ⟨b, off + k * 3 + 1, none⟩) hbb).trans (hx k hlt 1 (by omega))
        have g2 := (hB.cell (p := ⟨b, off + k * 3 + 2, none⟩) hbb).trans (hx k hlt 2 (by omega))
        have k0 := (hB.cell (p := ⟨b', off' + k * 3 + 0, none⟩) hbb').trans (hx' k hlt' 0 (by omega))
        have k1 := (hB.cell (p := ⟨b', off' + k * 3 + 1, none⟩) hbb').trans (hx' k hlt' 1 (by omega))
        have k2 := (hB.cell (p := ⟨b', off' + k * 3 + 2, none⟩) hbb').trans (hx' k hlt' 2 (by omega))
        simp only [encSector, List.getD_cons_zero, List.getD_cons_succ, Nat.add_zero] at g0 g1 g2 k0 k1 k2
        clear hx hx'
        cases hq1 : (xs[k].fFrom == ys[k].fFrom)
        · go_wp2
          go_quiet (fail)
          go_wp2
          first
            | (go_ret; exact ⟨ret_bool (sameG_false_at secE xs ys k hlt hlt' (by first | exact secE_ne3 (by assumption) | exact secE_ne2 (by assumption) | exact secE_ne1 (by assumption))).symm, by (repeat' (first | (with_reducible exact Below.refl _ _) | (with_reducible refine Below.alloc ?_ ?_ _) | (with_reducible refine Below.drew ?_) | (with_reducible refine below_drewN ?_ _) | (with_reducible refine Below.setCell ?_ ?_ _) | (with_reducible refine below_via ‹_› ?_ ?_) | (with_reducible refine below_grow ?_ ?_ _ _) | omega | (simp; done) | (simp; omega)))⟩)
            | (go_roundw
               case rel => exact ⟨k + 1, by omega, by go_num, all_ltG (P := fun a b => secE a = secE b) HT.out (fun _ _ => secE_eq hq1 hq2 hq3), by (repeat' (first | (with_reducible exact Below.refl _ _) | (with_reducible refine Below.alloc ?_ ?_ _) | (with_reducible refine Below.drew ?_) | (with_reducible refine below_drewN ?_ _) | (with_reducible refine Below.setCell ?_ ?_ _) | (with_reducible refine below_via ‹_› ?_ ?_) | (with_reducible refine below_grow ?_ ?_ _ _) | omega | (simp; done) | (simp; omega)))⟩
               case measure => simp [intOf]; omega)
        cases hq2 : (xs[k].fTo == ys[k].fTo)
        · go_wp2
          go_quiet (fail)
          go_wp2
          first
            | (go_ret; exact ⟨ret_bool (sameG_false_at secE xs ys k hlt hlt' (by first | exact secE_ne3 (by assumption) | exact secE_ne2 (by assumption) | exact secE_ne1 (by assumption))).symm, by (repeat' (first | (with_reducible exact Below.refl _ _) | (with_reducible refine Below.alloc ?_ ?_ _) | (with_reducible refine Below.drew ?_) | (with_reducible refine below_drewN ?_ _) | (with_reducible refine Below.setCell ?_ ?_ _) | (with_reducible refine below_via ‹_› ?_ ?_) | (with_reducible refine below_grow ?_ ?_ _ _) | omega | (simp; done) | (simp; omega)))⟩)
            | (go_roundw
               case rel => exact ⟨k + 1, by omega, by go_num, all_ltG (P := fun a b => secE a = secE b) HT.out (fun _ _ => secE_eq hq1 hq2 hq3), by (repeat' (first | (with_reducible exact Below.refl _ _) | (with_reducible refine Below.alloc ?_ ?_ _) | (with_reducible refine Below.drew ?_) | (with_reducible refine below_drewN ?_ _) | (with_reducible refine Below.setCell ?_ ?_ _) | (with_reducible refine below_via ‹_› ?_ ?_) | (with_reducible refine below_grow ?_ ?_ _ _) | omega | (simp; done) | (simp; omega)))⟩
               case measure => simp [intOf]; omega)
        cases hq3 : (xs[k].fColor.toList == ys[k].fColor.toList)
        · go_wp2
          go_quiet (fail)
          go_wp2
          first
            | (go_ret; exact ⟨ret_bool (sameG_false_at secE xs ys k hlt hlt' (by first | exact secE_ne3 (by assumption) | exact secE_ne2 (by assumption) | exact secE_ne1 (by assumption))).symm, by (repeat' (first | (with_reducible exact Below.refl _ _) | (with_reducible refine Below.alloc ?_ ?_ _) | (with_reducible refine Below.drew ?_) | (with_reducible refine below_drewN ?_ _) | (with_reducible refine Below.setCell ?_ ?_ _) | (with_reducible refine below_via ‹_› ?_ ?_) | (with_reducible refine below_grow ?_ ?_ _ _) | omega | (simp; done) | (simp; omega)))⟩)
            | (go_roundw
               case rel => exact ⟨k + 1, by omega, by go_num, all_ltG (P := fun a b => secE a = secE b) HT.out (fun _ _ => secE_eq hq1 hq2 hq3), by (repeat' (first | (with_reducible exact Below.refl _ _) | (with_reducible refine Below.alloc ?_ ?_ _) | (with_reducible refine Below.drew ?_) | (with_reducible refine below_drewN ?_ _) | (with_reducible refine Below.setCell ?_ ?_ _) | (with_reducible refine below_via ‹_› ?_ ?_) | (with_reducible refine below_grow ?_ ?_ _ _) | omega | (simp; done) | (simp; omega)))⟩
               case measure => simp [intOf]; omega)
        go_wp2
        go_quiet (fail)
        go_wp2
        first
          | (go_ret; exact ⟨ret_bool (sameG_false_at secE xs ys k hlt hlt' (by first | exact secE_ne3 (by assumption) | exact secE_ne2 (by assumption) | exact secE_ne1 (by assumption))).symm, by (repeat' (first | (with_reducible exact Below.refl _ _) | (with_reducible refine Below.alloc ?_ ?_ _) | (with_reducible refine Below.drew ?_) | (with_reducible refine below_drewN ?_ _) | (with_reducible refine Below.setCell ?_ ?_ _) | (with_reducible refine below_via ‹_› ?_ ?_) | (with_reducible refine below_grow ?_ ?_ _ _) | omega | (simp; done) | (simp; omega)))⟩)
          | (go_roundw
             case rel => exact ⟨k + 1, by omega, by go_num, all_ltG (P := fun a b => secE a = secE b) HT.out (fun _ _ => secE_eq hq1 hq2 hq3), by (repeat' (first | (with_reducible exact Below.refl _ _) | (with_reducible refine Below.alloc ?_ ?_ _) | (with_reducible refine Below.drew ?_) | (with_reducible refine below_drewN ?_ _) | (with_reducible refine Below.setCell ?_ ?_ _) | (with_reducible refine below_via ‹_› ?_ ?_) | (with_reducible refine below_grow ?_ ?_ _ _) | omega | (simp; done) | (simp; omega)))⟩
             case measure => simp [intOf]; omega)
      · have HR := hid (sameG_true secE xs ys HL.out fun j h1 h2 => HT.out j h1 h2 (by omega))
        clear hx hx'
        go_wp2
        go_ret
        exact ⟨ret_bool HR.out.symm, by (repeat' (first | (with_reducible exact Below.refl _ _) | (with_reducible refine Below.alloc ?_ ?_ _) | (with_reducible refine Below.drew ?_) | (with_reducible refine below_drewN ?_ _) | (with_reducible refine Below.setCell ?_ ?_ _) | (with_reducible refine below_via ‹_› ?_ ?_) | (with_reducible refine below_grow ?_ ?_ _ _) | omega | (simp; done) | (simp; omega)))⟩
  · have hlB : ((xs.length : Int) != (ys.length : Int)) = true := by simp; omega
    have HL := hid (sameG_false_len secE xs ys hl)
    clear hl
    go_enter Try.func42, Try.ntmps42
    go_wp2
    go_ret
    exact ⟨ret_bool HL.out.symm, by (repeat' (first | (with_reducible exact Below.refl _ _) | (with_reducible refine Below.alloc ?_ ?_ _) | (with_reducible refine Below.drew ?_) | (with_reducible refine below_drewN ?_ _) | (with_reducible refine Below.setCell ?_ ?_ _) | (with_reducible refine below_via ‹_› ?_ ?_) | (with_reducible refine below_grow ?_ ?_ _ _) | omega | (simp; done) | (simp; omega)))⟩
set_option maxHeartbeats 1000000 in
theorem c_same_Sector (v v' : Value) (xs ys : List SectorD) (w : World) (h : SlA w 0 3 encSector v xs) (h' : SlA w 0 3 encSector v' ys) :
    Calls Try.prog 48 #[v, v'] w fun e w' => e = .returned (.bool (sameG secE xs ys)) ∧ Below w.heap.size w w' := by
  obtain ⟨ad, cap, b, off, rfl, hm, had, hx⟩ := h.uni
  obtain ⟨ad', cap', b', off', rfl, hm', had', hx'⟩ := h'.uni
  by_cases hl : xs.length = ys.length
  · have hlB : ((xs.length : Int) != (ys.length : Int)) = false := by simp [hl]
    have HL := hid hl
    clear hl
    go_enter Try.func48, Try.ntmps48
    go_wp2
    go_loopw [13] (fun i wr => ∃ k : Nat, k ≤ xs.length ∧ i = .int .i64 k ∧ (∀ j, (h1 : j < xs.length) → (h2 : j < ys.length) → j < k → secE xs[j] = secE ys[j]) ∧ Below w.heap.size w wr) (fun i _ => xs.length - (intOf i).toNat)
    case atStart => exact ⟨0, Nat.zero_le _, rfl, fun j _ _ hj => by omega, by (repeat' (first | (with_reducible exact Below.refl _ _) | (with_reducible refine Below.alloc ?_ ?_ _) | (with_reducible refine Below.drew ?_) | (with_reducible refine below_drewN ?_ _) | (with_reducible refine Below.setCell ?_ ?_ _) | (with_reducible refine below_via ‹_› ?_ ?_) | (with_reducible refine below_grow ?_ ?_ _ _) | omega | (simp; done) | (simp; omega)))⟩
    case round =>
      obtain ⟨k, hk, rfl, ht, hB⟩ := hrel
      have HT := hid ht; clear ht
      by_cases hlt : k < xs.length
      · have hlI : (k : Int) < xs.length := by omega
        have hlt' : k < ys.length := by have := HL.out; omega
        have hlI' : (k : Int) < ys.length := by omega
        obtain ⟨rfl, hbb, -, hcc, hmc⟩ := had (by omega)
        obtain ⟨rfl, hbb', -, hcc', hmc'⟩ := had' (by omega)
        have g0 := (hB.cell (p := ⟨b, off + k * 3 + 0, none⟩) hbb).trans (hx k hlt 0 (by omega))
        have g1 := (hB.cell (p := ⟨b, off + k * 3 + 1, none⟩) hbb).trans (hx k hlt 1 (by omega))
        have g2 := (hB.cell (p := ⟨b, off + k * 3 + 2, none⟩) hbb).trans (hx k hlt 2 (by omega))
        have k0 := (hB.cell (p := ⟨b', off' + k * 3 + 0, none⟩) hbb').trans (hx' k hlt' 0 (by omega))
        have k1 := (hB.cell (p := ⟨b', off' + k * 3 + 1, none⟩) hbb').trans (hx' k hlt' 1 (by omega))
        have k2 := (hB.cell (p := ⟨b', off' + k * 3 + 2, none⟩) hbb').trans (hx' k hlt' 2 (by omega))
        simp only [encSector, List.getD_cons_zero, List.getD_cons_succ, Nat.add_zero] at g0 g1 g2 k0 k1 k2
        clear hx hx'
        cases hq1 : (xs[k].fFrom == ys[k].fFrom)
        · go_wp2
          go_quiet (fail)
          go_wp2
          first
            | (go_ret; exact ⟨ret_bool (sameG_false_at secE xs ys k hlt hlt' (by first | exact secE_ne3 (by assumption) | exact secE_ne2 (by assumption) | exact secE_ne1 (by assumption))).symm, by (repeat' (first | (with_reducible exact Below.refl _ _) | (with_reducible refine Below.alloc ?_ ?_ _) | (with_reducible refine Below.drew ?_) | (with_reducible refine below_drewN ?_ _) | (with_reducible refine Below.setCell ?_ ?_ _) | (with_reducible refine below_via ‹_› ?_ ?_) | (with_reducible refine below_grow ?_ ?_ _ _) | omega | (simp; done) | (simp; omega)))⟩)
            | (go_roundw
               case rel => exact ⟨k + 1, by omega, by go_num, all_ltG (P := fun a b => secE a = secE b) HT.out (fun _ _ => secE_eq hq1 hq2 hq3), by (repeat' (first | (with_reducible exact Below.refl _ _) | (with_reducible refine Below.alloc ?_ ?_ _) | (with_reducible refine Below.drew ?_) | (with_reducible refine below_drewN ?_ _) | (with_reducible refine Below.setCell ?_ ?_ _) | (with_reducible refine below_via ‹_› ?_ ?_) | (with_reducible refine below_grow ?_ ?_ _ _) | omega | (simp; done) | (simp; omega)))⟩
               case measure => simp [intOf]; omega)
        cases hq2 : (xs[k].fTo == ys[k].fTo)
        · go_wp2
          go_quiet (fail)
          go_wp2
          first
            | (go_ret; exact ⟨ret_bool (sameG_false_at secE xs ys k hlt hlt' (by first | exact secE_ne3 (by assumption) | exact secE_ne2 (by assumption) | exact secE_ne1 (by assumption))).symm, by (repeat' (first | (with_reducible exact Below.refl _ _) | (with_reducible refine Below.alloc ?_ ?_ _) | (with_reducible refine Below.drew ?_) | (with_reducible refine below_drewN ?_ _) | (with_reducible refine Below.setCell ?_ ?_ _) | (with_reducible refine below_via ‹_› ?_ ?_) | (with_reducible refine below_grow ?_ ?_ _ _) | omega | (simp; done) | (simp; omega)))⟩)
            | (go_roundw
               case rel => exact ⟨k + 1, by omega, by go_num, all_ltG (P := fun a b => secE a = secE b) HT.out (fun _ _ => secE_eq hq1 hq2 hq3), by (repeat' (first | (with_reducible exact Below.refl _ _) | (with_reducible refine Below.alloc ?_ ?_ _) | (with_reducible refine Below.drew ?_) | (with_reducible refine below_drewN ?_ _) | (with_reducible refine Below.setCell ?_ ?_ _) | (with_reducible refine below_via ‹_› ?_ ?_) | (with_reducible refine below_grow ?_ ?_ _ _) | omega | (simp; done) | (simp; omega)))⟩
               case measure => simp [intOf]; omega)
        cases hq3 : (xs[k].fColor.toList == ys[k].fColor.toList)
        · go_wp2
          go_quiet (fail)
          go_wp2
          first
            | (go_ret; exact ⟨ret_bool (sameG_false_at secE xs ys k hlt hlt' (by first | exact secE_ne3 (by assumption) | exact secE_ne2 (by assumption) | exact secE_ne1 (by assumption))).symm, by (repeat' (first | (with_reducible exact Below.refl _ _) | (with_reducible refine Below.alloc ?_ ?_ _) | (with_reducible refine Below.drew ?_) | (with_reducible refine below_drewN ?_ _) | (with_reducible refine Below.setCell ?_ ?_ _) | (with_reducible refine below_via ‹_› ?_ ?_) | (with_reducible refine below_grow ?_ ?_ _ _) | omega | (simp; done) | (simp; omega)))⟩)
            | (go_roundw
               case rel => exact ⟨k + 1, by omega, by go_num, all_ltG (P := fun a b => secE a = secE b) HT.out (fun _ _ => secE_eq hq1 hq2 hq3), by (repeat' (first | (with_reducible exact Below.refl _ _) | (with_reducible refine Below.alloc ?_ ?_ _) | (with_reducible refine Below.drew ?_) | (with_reducible refine below_drewN ?_ _) | (with_reducible refine Below.setCell ?_ ?_ _) | (with_reducible refine below_via ‹_› ?_ ?_) | (with_reducible refine below_grow ?_ ?_ _ _) | omega | (simp; done) | (simp; omega)))⟩
               case measure => simp [intOf]; omega)
        go_wp2
        go_quiet (fail)
        go_wp2
        first
          | (go_ret; exact ⟨ret_bool (sameG_false_at secE xs ys k hlt hlt' (by first | exact secE_ne3 (by assumption) | exact secE_ne2 (by assumption) | exact secE_ne1 (by assumption))).symm, by (repeat' (first | (with_reducible exact Below.refl _ _) | (with_reducible refine Below.alloc ?_ ?_ _) | (with_reducible refine Below.drew ?_) | (with_reducible refine below_drewN ?_ _) | (with_reducible refine Below.setCell ?_ ?_ _) | (with_reducible refine below_via ‹_› ?_ ?_) | (with_reducible refine below_grow ?_ ?_ _ _) | omega | (simp; done) | (simp; omega)))⟩)
          | (go_roundw
             case rel => exact ⟨k + 1, by omega, by go_num, all_ltG (P := fun a b => secE a = secE b) HT.out (fun _ _ => secE_eq hq1 hq2 hq3), by (repeat' (first | (with_reducible exact Below.refl _ _) | (with_reducible refine Below.alloc ?_ ?_ _) | (with_reducible refine Below.drew ?_) | (with_reducible refine below_drewN ?_ _) | (with_reducible refine Below.setCell ?_ ?_ _) | (with_reducible refine below_via ‹_› ?_ ?_) | (with_reducible refine below_grow ?_ ?_ _ _) | omega | (simp; done) | (simp; omega)))⟩
             case measure => simp [intOf]; omega)
      · have HR := hid (sameG_true secE xs ys HL.out fun j h1 h2 => HT.out j h1 h2 (by omega))
        clear hx hx'
        go_wp2
        go_ret
        exact ⟨ret_bool HR.out.symm, by (repeat' (first | (with_reducible exact Below.refl _ _) | (with_reducible refine Below.alloc ?_ ?_ _) | (with_reducible refine Below.drew ?_) | (with_reducible refine below_drewN ?_ _) | (with_reducible refine Below.setCell ?_ ?_ _) | (with_reducible refine below_via ‹_› ?_ ?_) | (with_reducible refine below_grow ?_ ?_ _ _) | omega | (simp; done) | (simp; omega)))⟩
  · have hlB : ((xs.length : Int) != (ys.length : Int)) = true := by simp; omega
    have HL := hid (sameG_false_len secE xs ys hl)
    clear hl
    go_enter Try.func48, Try.ntmps48
    go_wp2
    go_ret
    exact ⟨ret_bool HL.out.symm, by (repeat' (first | (with_reducible exact Below.refl _ _) | (with_reducible refine Below.alloc ?_ ?_ _) | (with_reducible refine Below.drew ?_) | (with_reducible refine below_drewN ?_ _) | (with_reducible refine Below.setCell ?_ ?_ _) | (with_reducible refine below_via ‹_› ?_ ?_) | (with_reducible refine below_grow ?_ ?_ _ _) | omega | (simp; done) | (simp; omega)))⟩
end Go.Proofs.Ytjibilibdjfdcaa
