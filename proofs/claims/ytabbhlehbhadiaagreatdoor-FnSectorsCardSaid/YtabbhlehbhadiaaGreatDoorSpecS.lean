/- The arcs that are lit, and those that are dark: the reference's side. -/
import Derived.Test.YtabbhlehbhadiaaGreatDoorSimp
namespace Go.Proofs.YtabbhlehbhadiaaGreatDoor
open Go.RowKit Go.Sort
set_option maxRecDepth 100000

theorem toList_inj {a b : ByteArray} : a.toList = b.toList ↔ a = b := by
  constructor
  · intro e; cases a; cases b; rw [ByteArray.toList_eq, ByteArray.toList_eq] at e; simpa using e
  · intro e; rw [e]
theorem stB_eq {c : Circ} {d q : Int} (hq : (d + 359) % 360 = q) : stB c d = !((c q).toList == (c d).toList) := by
  rw [stB, hq, Bool.eq_iff_iff]
  simp only [Bool.not_eq_true', decide_eq_false_iff_not, beq_eq_false_iff_ne, ne_eq, toList_inj]
  exact ⟨fun h e => h e.symm, fun h e => h e.symm⟩
theorem isD_eq (c : Circ) (d : Int) : isD c d = (c d).toList.isEmpty := by
  rw [isD, Bool.eq_iff_iff]; simp [emp_iff]
theorem simpP_no {c : Circ} {dk : Bool} {n : Nat} (h : stB c n = false ∨ (isD c n == dk) = false) : simpP c dk (n + 1) = simpP c dk n := by
  rw [simpP]; rcases h with h | h <;> simp [h]
theorem simpP_yes {c : Circ} {dk : Bool} {n : Nat} (h : stB c n = true) (h2 : (isD c n == dk) = true) : simpP c dk (n + 1) = simpP c dk n ++ [⟨n, endC c n, c n⟩] := by
  rw [simpP, h, h2]; rfl
def allS (c : Circ) (k : Nat) : Bool := allB (fun i => (c (i : Int)).toList == (c 0).toList) k
theorem allS_succ (c : Circ) (k : Nat) : allS c (k + 1) = (allS c k && ((c (k : Int)).toList == (c 0).toList)) := rfl
theorem sts_nil {c : Circ} : sts c 360 = [] ↔ allS c 360 = true := by
  constructor
  · intro h
    refine allB_true fun i hi => ?_
    rw [beq_iff_eq, toList_inj]
    exact run_eq c (a := 0) (b := 360) (by omega) (by omega) (fun d h0 h1 => by
      cases hs : stB c d
      · rfl
      · have := sts_mem c 360 d (by omega) (by omega) hs
        rw [h] at this; cases this) i i (by omega) (by omega) (by omega)
  · intro h
    have ha : ∀ i : Nat, i < 360 → c i = c 0 := fun i hi => by
      have := of_allB h i hi
      rw [beq_iff_eq, toList_inj] at this; exact this
    cases hl : sts c 360 with
    | nil => rfl
    | cons d l =>
      have hd := sts_lt c 360 d (by rw [hl]; simp)
      have hs := st_ne (sts_st c 360 d (by rw [hl]; simp))
      exfalso; apply hs
      have e1 := ha d.toNat (by omega)
      have e2 := ha ((d + 359) % 360).toNat (by omega)
      rw [show ((d.toNat : Nat) : Int) = d by omega] at e1
      rw [show ((((d + 359) % 360).toNat : Nat) : Int) = (d + 359) % 360 by omega] at e2
      rw [e1, e2]
theorem simpF_pos {c : Circ} {dk : Bool} (h : ¬ simpP c dk 360 = []) : simpF c dk = simpP c dk 360 := by rw [simpF, if_neg (fun k => h k.1)]
theorem simpF_other {c : Circ} {dk : Bool} (h : (isD c 0 == dk) = false) : simpF c dk = simpP c dk 360 := by rw [simpF, if_neg (fun k => by rw [k.2.1] at h; simp at h)]
theorem simpF_diff {c : Circ} {dk : Bool} (h : allS c 360 = false) : simpF c dk = simpP c dk 360 := by rw [simpF, if_neg (fun k => by rw [sts_nil.1 k.2.2] at h; cases h)]
theorem simpF_same {c : Circ} {dk : Bool} (h0 : simpP c dk 360 = []) (h1 : (isD c 0 == dk) = true) (h2 : allS c 360 = true) : simpF c dk = [⟨0, 0, c 0⟩] := by rw [simpF, if_pos ⟨h0, by simpa using h1, sts_nil.2 h2⟩]
theorem CircC.cell {w : World} {g : Nat} {c : Circ} (h : CircC w g c) {d : Nat} (hd : d < 360) : w.cell? ⟨g, d, none⟩ = some (.string (c d)) := h.2.2 d hd
theorem CircC.kept {w w' : World} {g : Nat} {c : Circ} (h : CircC w g c) {r : Option Nat} (hg : w.grownBy w' r) (hr : r ≠ some g) : CircC w' g c := by
  obtain ⟨h1, h2, h3⟩ := h
  have hb := hg.block g h1 (fun e => hr e.symm)
  exact ⟨Nat.lt_of_lt_of_le h1 hg.size, fun j => (World.frozen?_of_block (a := ⟨g, j, none⟩) hb).trans (h2 j), fun d hd => (World.cell?_of_block (a := ⟨g, d, none⟩) hb).trans (h3 d hd)⟩
end Go.Proofs.YtabbhlehbhadiaaGreatDoor
namespace Go.Proofs.YtabbhlehbhadiaaGreatDoor
open Go.RowKit Go.Sort
set_option maxRecDepth 100000

end Go.Proofs.YtabbhlehbhadiaaGreatDoor
namespace Go.Proofs.YtabbhlehbhadiaaGreatDoor
open Go.RowKit Go.Sort
set_option maxRecDepth 100000

def turnP (c : Circ) (a : Int) (k : Int) (x : Int) : ByteArray := if (x - a) % 360 < k then c ((x - a) % 360) else ⟨#[]⟩
theorem turnP_zero (c : Circ) (a x : Int) : turnP c a ((0 : Nat) : Int) x = dark x := by unfold turnP; rw [if_neg (by omega)]; rfl
theorem turnP_step (c : Circ) (a : Int) (k : Nat) (hk : k < 360) (x : Int) (h0 : 0 ≤ x) (h1 : x < 360) : turnP c a ((k + 1 : Nat) : Int) x = if x = ((k : Int) + a) % 360 then c k else turnP c a k x := by
  unfold turnP
  by_cases h : x = ((k : Int) + a) % 360
  · rw [if_pos h, show (x - a) % 360 = (k : Int) by omega, if_pos (by omega)]
  · rw [if_neg h]
    by_cases h2 : (x - a) % 360 < k
    · rw [if_pos h2, if_pos (by omega)]
    · rw [if_neg h2, if_neg (by omega)]
def tuL (xs : List SectorD) (n : Int) : List SectorD := if secB xs then simpF (turnP (circ xs xs.length) (n % 360) 360) false else []
theorem tuL_len (xs : List SectorD) (n : Int) : (tuL xs n).length ≤ 360 := by unfold tuL; split; exact simpF_len _ _; simp
theorem row_of_set {w : World} {g g' : Nat} {cs ds : Array Value} {T : TypeId} (hne : g ≠ g') (h : w.heap[g]? = some (.cells cs T (0, 0))) : (w.setRow g' ds).heap[g]? = some (.cells cs T (0, 0)) := by
  unfold World.setRow
  simp only [Array.getElem?_modify]
  rw [if_neg (fun e => hne e.symm)]; exact h
set_option maxHeartbeats 4000000 in
theorem c_impl_TurnSectors (v : Value) (xs : List SectorD) (n : Int) (w : World) (h : SlA w 0 3 encSector v xs) (hok : ∀ x ∈ xs, okSector x) (hl : xs.length ≤ 1048576) (hn : I64 n) :
    Calls Tryz.prog 25 #[v, .int .i64 n] w fun e w' => SectorsCode w w' (tuL xs n) (sdC xs) e := by
  cases hs : secB xs
  · have HL := hid (show tuL xs n = [] ∧ sdC xs = 1 by simp [tuL, sdC, hs])
    go_enter Tryz.func25, Tryz.ntmps25
    go_wp2_with (first | (go_at_call 49; refine (c_impl_ValidSectors _ _ _ (by first | (with_reducible assumption) | (with_reducible apply SlO.at; (with_reducible assumption); (repeat' (first | (with_reducible exact Below.refl _ _) | (with_reducible refine Below.alloc ?_ ?_ _) | (with_reducible refine Below.drew ?_) | (with_reducible refine below_drewN ?_ _) | (with_reducible refine Below.setCell ?_ ?_ _) | (with_reducible refine below_via ‹_› ?_ ?_) | (with_reducible refine below_grow ?_ ?_ _ _) | omega | (simp; done) | (simp; omega))); done) | (with_reducible apply SlA.at; (with_reducible assumption); (repeat' (first | (with_reducible exact Below.refl _ _) | (with_reducible refine Below.alloc ?_ ?_ _) | (with_reducible refine Below.drew ?_) | (with_reducible refine below_drewN ?_ _) | (with_reducible refine Below.setCell ?_ ?_ _) | (with_reducible refine below_via ‹_› ?_ ?_) | (with_reducible refine below_grow ?_ ?_ _ _) | omega | (simp; done) | (simp; omega))); done)) (by assumption) (by omega)).mono ?_; rintro e w1 ⟨rfl, hb⟩; obtain ⟨hc, hf⟩ := bcell hb; have hz := hb.size; (try simp at hz); (try have hz0 : ∀ b, b < w.heap.size → b < w1.heap.size := fun b h => by omega); (try have hz1 : w.heap.size < w1.heap.size := by omega); (try have hz2 : w.heap.size + 1 < w1.heap.size := by omega); (try have hz3 : w.heap.size + 2 < w1.heap.size := by omega)))
    go_ret2
    rw [HL.out.2]
    exact sectorsCode_none (by (repeat' (first | (with_reducible exact Below.refl _ _) | (with_reducible refine Below.alloc ?_ ?_ _) | (with_reducible refine Below.drew ?_) | (with_reducible refine below_drewN ?_ _) | (with_reducible refine Below.setCell ?_ ?_ _) | (with_reducible refine below_via ‹_› ?_ ?_) | (with_reducible refine below_grow ?_ ?_ _ _) | omega | (simp; done) | (simp; omega)))) HL.out.1
  obtain ⟨c, hc⟩ : ∃ c : Circ, c = circ xs xs.length := ⟨_, rfl⟩
  obtain ⟨a, ha⟩ : ∃ a, a = n % 360 := ⟨_, rfl⟩
  have HL := hid (show tuL xs n = simpF (turnP c a 360) false ∧ sdC xs = 0 by simp [tuL, sdC, hs, hc, ha])
  have ha0 : 0 ≤ a := by omega
  have ha1 : a < 360 := by omega
  have cp : ∀ wq, SlA wq 0 3 encSector v xs → Calls Tryz.prog 52 #[v] wq fun e w' => e = .returned (.agg (circA c)) ∧ Below wq.heap.size wq w' := fun wq h => by rw [hc]; exact c_painted v xs wq h hs
  have ct : ∀ wq, Calls Tryz.prog 61 #[.int .i64 n] wq fun e w' => e = .returned (.int .i64 a) ∧ wq = w' := fun wq => by rw [ha]; exact c_turnedI n wq hn
  clear ha hc
  go_enter Tryz.func25, Tryz.ntmps25
  go_wp2_with (first | (go_at_call 49; refine (c_impl_ValidSectors _ _ _ (by first | (with_reducible assumption) | (with_reducible apply SlO.at; (with_reducible assumption); (repeat' (first | (with_reducible exact Below.refl _ _) | (with_reducible refine Below.alloc ?_ ?_ _) | (with_reducible refine Below.drew ?_) | (with_reducible refine below_drewN ?_ _) | (with_reducible refine Below.setCell ?_ ?_ _) | (with_reducible refine below_via ‹_› ?_ ?_) | (with_reducible refine below_grow ?_ ?_ _ _) | omega | (simp; done) | (simp; omega))); done) | (with_reducible apply SlA.at; (with_reducible assumption); (repeat' (first | (with_reducible exact Below.refl _ _) | (with_reducible refine Below.alloc ?_ ?_ _) | (with_reducible refine Below.drew ?_) | (with_reducible refine below_drewN ?_ _) | (with_reducible refine Below.setCell ?_ ?_ _) | (with_reducible refine below_via ‹_› ?_ ?_) | (with_reducible refine below_grow ?_ ?_ _ _) | omega | (simp; done) | (simp; omega))); done)) (by assumption) (by omega)).mono ?_; rintro e w1 ⟨rfl, hb⟩; obtain ⟨hc, hf⟩ := bcell hb; have hz := hb.size; (try simp at hz); (try have hz0 : ∀ b, b < w.heap.size → b < w1.heap.size := fun b h => by omega); (try have hz1 : w.heap.size < w1.heap.size := by omega); (try have hz2 : w.heap.size + 1 < w1.heap.size := by omega); (try have hz3 : w.heap.size + 2 < w1.heap.size := by omega)) | (go_at_call 52; refine (cp _ (by first | (with_reducible assumption) | (with_reducible apply SlO.at; (with_reducible assumption); (repeat' (first | (with_reducible exact Below.refl _ _) | (with_reducible refine Below.alloc ?_ ?_ _) | (with_reducible refine Below.drew ?_) | (with_reducible refine below_drewN ?_ _) | (with_reducible refine Below.setCell ?_ ?_ _) | (with_reducible refine below_via ‹_› ?_ ?_) | (with_reducible refine below_grow ?_ ?_ _ _) | omega | (simp; done) | (simp; omega))); done) | (with_reducible apply SlA.at; (with_reducible assumption); (repeat' (first | (with_reducible exact Below.refl _ _) | (with_reducible refine Below.alloc ?_ ?_ _) | (with_reducible refine Below.drew ?_) | (with_reducible refine below_drewN ?_ _) | (with_reducible refine Below.setCell ?_ ?_ _) | (with_reducible refine below_via ‹_› ?_ ?_) | (with_reducible refine below_grow ?_ ?_ _ _) | omega | (simp; done) | (simp; omega))); done))).mono ?_; rintro e w2 ⟨rfl, hb2⟩) | (refine wpList_store_row rfl 85 (.tmp 6) (.tmp 13) rfl w2.heap.size (circA c) rfl rfl 85 Tryz.zeroCells85 (by rw [heap_alloc_old _ _ (by simp), heap_alloc_new]) (by rw [circA_size]; exact info_circle) (by rw [zc_circle, circA_size, circA_size]) (circA_one _) ?_) | (refine wpList_store_row rfl 85 (.tmp 7) (.tmp 14) rfl (w2.heap.size + 1) Tryz.zeroCells85 rfl rfl 85 Tryz.zeroCells85 (row_of_set (by omega) (by have := heap_alloc_new (w2.alloc (.cells Tryz.zeroCells85 85)) (.cells Tryz.zeroCells85 85); simpa using this)) (by rw [zc_circle, circA_size]; exact info_circle) rfl (by rw [zc_circle]; exact circA_one _) ?_))
  obtain ⟨W, hW⟩ : ∃ z, z = (((w2.alloc (.cells Tryz.zeroCells85 85)).alloc (.cells Tryz.zeroCells85 85)).setRow w2.heap.size (circA c)).setRow (w2.heap.size + 1) Tryz.zeroCells85 := ⟨_, rfl⟩
  rw [← hW]
  have hR0 : RowC W w2.heap.size c := by
    rw [hW]; refine row_setRow ?_ (by omega)
    refine setRow_row (c := dark) ?_
    unfold RowC; rw [heap_alloc_old _ _ (by simp), heap_alloc_new, zc_circle]
  have hC0 : RowC W (w2.heap.size + 1) dark := by
    rw [hW, zc_circle]; refine setRow_row (c := dark) ?_
    refine row_setRow ?_ (by omega)
    have := RowC.new (w2.alloc (.cells (circA dark) 85)) dark
    simpa using this
  have hz2 : w.heap.size ≤ w2.heap.size := by have := hb.size; have := hb2.size; omega
  have hBW : Below w.heap.size w W := by rw [hW]; exact below_setRow (below_setRow (by (repeat' (first | (with_reducible exact Below.refl _ _) | (with_reducible refine Below.alloc ?_ ?_ _) | (with_reducible refine Below.drew ?_) | (with_reducible refine below_drewN ?_ _) | (with_reducible refine Below.setCell ?_ ?_ _) | (with_reducible refine below_via ‹_› ?_ ?_) | (with_reducible refine below_grow ?_ ?_ _ _) | omega | (simp; done) | (simp; omega)))) (by omega)) (by omega)
  have hC0' : RowC W (w2.heap.size + 1) (turnP c a ((0 : Nat) : Int)) := hC0.congr fun d _ _ => turnP_zero c a d
  clear hW hC0 hb hb2 hc hf hz
  go_loopw [15] (fun i wr => ∃ k : Nat, k ≤ 360 ∧ i = .int .i64 k ∧ RowC wr w2.heap.size c ∧ RowC wr (w2.heap.size + 1) (turnP c a (k : Int)) ∧ Below w.heap.size w wr) (fun i _ => 360 - (intOf i).toNat)
  case atStart => exact ⟨0, by omega, rfl, hR0, hC0', hBW⟩
  case round =>
    clear hR0 hC0' hBW
    obtain ⟨k, hk, rfl, hR, hC, hB⟩ := hrel
    have hzr := hB.size
    have HR := hid hR; have HC := hid hC
    by_cases hlt : k < 360
    · have hlI : (k : Int) < 360 := by omega
      obtain ⟨q, hq⟩ : ∃ q : Nat, ((k : Int) + a) % 360 = q := ⟨(((k : Int) + a) % 360).toNat, by omega⟩
      have hq3 : q < 360 := by omega
      have hqI : (q : Int) < 360 := by omega
      have c1 := hR.cell hlt
      have c2 := hC.cell hq3
      have c3 := hC.frozen q
      have hwk : IntKind.i64.wrap ((k : Int) + a) = (k : Int) + a := IntWalk.i64_in _ (by omega)
      have ct2 : ∀ wq, Calls Tryz.prog 61 #[.int .i64 ((k : Int) + a)] wq fun e w' => e = .returned (.int .i64 q) ∧ wq = w' := fun wq => by rw [← hq]; exact c_turnedI _ wq ⟨by omega, by omega⟩
      have HS := hid (fun x h0 h1 => turnP_step c a k hlt x h0 h1)
      have HQ := hid hq
      clear hq hR hC
      go_wp2
      (refine wp_region_still_tail 9 (by kernel_rfl) (by kernel_rfl) ?_; simp only [List.take_succ_cons, List.take_zero, List.drop_succ_cons, List.drop_zero]; (repeat (first | still_step | (still_call ((ct _).mono fun _ _ h => ⟨h.1, h.2.symm⟩)) | (still_call ((ct2 _).mono fun _ _ h => ⟨h.1, h.2.symm⟩)))); (try refine wpStill_nil ?_); change wpList _ _ _ _ _ (World.drew _))
      go_wp2
      go_roundw
      case rel => exact ⟨k + 1, by omega, by go_num, (HR.out.far (by simp)).drew, (HC.out.set (c k) (fun x h0 h1 => by rw [HS.out x h0 h1, HQ.out])).drew, by (repeat' (first | (with_reducible exact Below.refl _ _) | (with_reducible refine Below.alloc ?_ ?_ _) | (with_reducible refine Below.drew ?_) | (with_reducible refine below_drewN ?_ _) | (with_reducible refine Below.setCell ?_ ?_ _) | (with_reducible refine below_via ‹_› ?_ ?_) | (with_reducible refine below_grow ?_ ?_ _ _) | omega | (simp; done) | (simp; omega)))⟩
      case measure => simp [intOf]; omega
    · have e : k = 360 := by omega
      subst e
      go_wp2_with (first | (refine wpList_load_row rfl 85 (.tmp 7) rfl (w2.heap.size + 1) rfl 85 (circA (turnP c a 360)) (0, 0) _ HC.out Tryz.underlying85 rfl (by rw [circA_size]; exact info_circle) ?_) | (go_at_call 54; refine (c_simple _ _).mono ?_; rintro e w3 ⟨u, rfl, hb3, hS⟩))
      go_ret2
      rw [HL.out.1, HL.out.2]
      exact ⟨_, rfl, by (repeat' (first | (with_reducible exact Below.refl _ _) | (with_reducible refine Below.alloc ?_ ?_ _) | (with_reducible refine Below.drew ?_) | (with_reducible refine below_drewN ?_ _) | (with_reducible refine Below.setCell ?_ ?_ _) | (with_reducible refine below_via ‹_› ?_ ?_) | (with_reducible refine below_grow ?_ ?_ _ _) | omega | (simp; done) | (simp; omega))), hS.mono (by omega)⟩
theorem circ_drew {w : World} {g : Nat} {c : Circ} (h : CircC w g c) : CircC w.drew g c := h
theorem circ_far {w : World} {g : Nat} {c : Circ} (h : CircC w g c) {a : Addr} {v : Value} (hne : g ≠ a.block) : CircC (w.setCell a v) g c := by
  obtain ⟨h1, h2, h3⟩ := h
  obtain ⟨ab, ao, asp⟩ := a
  refine ⟨by rw [size_set]; exact h1, fun j => by rw [World.frozen?_setCell]; exact h2 j, fun d hd => ?_⟩
  rw [World.cell?_setCell_other w _ _ _ (fun hh => hne (by have := (Addr.mk.injEq .. ▸ hh); exact this.1.symm))]; exact h3 d hd
end Go.Proofs.YtabbhlehbhadiaaGreatDoor
