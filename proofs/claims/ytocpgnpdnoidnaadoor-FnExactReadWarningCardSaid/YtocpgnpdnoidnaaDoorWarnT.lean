/- The text of a warning, both sides. Printed by wip/mkwarnt.py. -/
import Derived.Test.YtocpgnpdnoidnaaDoorHered
import Derived.Test.YtocpgnpdnoidnaaDoorWarn
import Derived.Test.YtocpgnpdnoidnaaDoorPointT
import Derived.Test.YtocpgnpdnoidnaaDoorWorkT
import Derived.Test.YtocpgnpdnoidnaaDoorSrc
import Derived.Test.YtocpgnpdnoidnaaDoorReadL
namespace Go.Proofs.YtocpgnpdnoidnaaDoor
open Go.RowKit Go.Sort
set_option linter.unusedVariables false
set_option maxRecDepth 100000

def vitalS : ByteArray := ⟨#[118, 105, 116, 97, 108]⟩
def importS : ByteArray := ⟨#[105, 109, 112, 111, 114, 116, 97, 110, 116]⟩
def routS : ByteArray := ⟨#[114, 111, 117, 116, 105, 110, 101]⟩
def nameP (p : Int) : ByteArray := if p = 1 then vitalS else if p = 2 then importS else if p = 3 then routS else ⟨#[]⟩
theorem nameP_size (p : Int) : (nameP p).size ≤ 9 := by unfold nameP; (repeat' split) <;> decide
/-- the names of the priorities lie in block b -/
structure NmC (b : Nat) (w : World) : Prop where
  lt : b < w.heap.size
  c0 : w.cell? ⟨b, 0, none⟩ = some (.string vitalS)
  c1 : w.cell? ⟨b, 1, none⟩ = some (.string importS)
  c2 : w.cell? ⟨b, 2, none⟩ = some (.string routS)
theorem NmC.at {b : Nat} {w w' : World} (h : NmC b w) (hb : Below w.heap.size w w') : NmC b w' := ⟨Nat.lt_of_lt_of_le h.lt hb.size, below_cell hb h.lt h.c0, below_cell hb h.lt h.c1, below_cell hb h.lt h.c2⟩
theorem NmC.get {b : Nat} {w : World} (h : NmC b w) {p : Int} {k : Nat} (hp : p = (k : Int) + 1) (hk : k < 3) : w.cell? ⟨b, k, none⟩ = some (.string (nameP p)) := by
  have : k = 0 ∨ k = 1 ∨ k = 2 := by omega
  rcases this with rfl | rfl | rfl
  · rw [h.c0, nameP, if_pos (by omega)]
  · rw [h.c1, nameP, if_neg (by omega), if_pos (by omega)]
  · rw [h.c2, nameP, if_neg (by omega), if_neg (by omega), if_pos (by omega)]
theorem c_l22Names (w : World) : Calls Tryd.prog 70 #[] w fun e w' => ∃ b, e = .returned (.slice (some ⟨b, 0, none⟩) 3 3) ∧ Below w.heap.size w w' ∧ NmC b w' := by
  go_enter Tryd.func70, Tryd.ntmps70
  go_wp2
  go_ret
  refine ⟨_, rfl, by (repeat' (first | (with_reducible exact Below.refl _ _) | (with_reducible refine Below.alloc ?_ ?_ _) | (with_reducible refine Below.drew ?_) | (with_reducible refine below_drewN ?_ _) | (with_reducible refine Below.setCell ?_ ?_ _) | (with_reducible refine below_via ‹_› ?_ ?_) | (with_reducible refine below_grow ?_ ?_ _ _) | omega | (simp; done) | (simp; omega))), by simp, ?_, ?_, ?_⟩ <;> (simp [go_sem]; rfl)
theorem c_atW (k n : Int) (w : World) (h0 : 0 ≤ n) (h1 : n ≤ 9223372036854775807) :
    Calls Tryd.prog 104 #[.int .i64 k, .int .i64 n] w fun e w' => e = .returned (.bool (inB k 0 (n - 1))) ∧ w = w' := by
  have e : inB k 0 (n - 1) = (decide (0 ≤ k) && decide (k < n)) := by
    rw [Bool.eq_iff_iff]; simp [inB]; omega
  rw [e]
  cases hq : decide (0 ≤ k)
  · go_enter Tryd.func104, Tryd.ntmps104
    go_wp2
    go_ret
    exact ⟨rfl, rfl⟩
  · go_enter Tryd.func104, Tryd.ntmps104
    go_wp2
    go_ret
    exact ⟨rfl, rfl⟩
theorem c_pickP (n : Int) (b : Nat) (w : World) (h0 : w.cell? ⟨b, 0, none⟩ = some (.string ⟨#[]⟩)) (h1 : w.cell? ⟨b, 1, none⟩ = some (.string vitalS)) (h2 : w.cell? ⟨b, 2, none⟩ = some (.string importS)) (h3 : w.cell? ⟨b, 3, none⟩ = some (.string routS)) :
    Calls Tryd.prog 82 #[.int .i64 n, .slice (some ⟨b, 0, none⟩) 4 4] w fun e w' => e = .returned (.string (nameP n)) ∧ w = w' := by
  have ca := fun w' => c_atW n 4 w' (by omega) (by omega)
  cases hi : inB n 0 (4 - 1)
  · have hn := inB_false hi
    have HN := hid (show nameP n = ⟨#[]⟩ by unfold nameP; rw [if_neg (by omega), if_neg (by omega), if_neg (by omega)])
    rw [hi] at ca
    go_enter Tryd.func82, Tryd.ntmps82
    go_wp2_with (go_at_call 104; refine (ca _).mono ?_; rintro e w' ⟨rfl, rfl⟩)
    go_ret
    rw [HN.out]
    exact ⟨rfl, rfl⟩
  · have hn := inB_true hi
    rw [hi] at ca
    obtain ⟨k, rfl⟩ : ∃ k : Nat, n = k := ⟨n.toNat, by omega⟩
    have hc : w.cell? ⟨b, k, none⟩ = some (.string (nameP k)) := by
      have hk : k = 0 ∨ k = 1 ∨ k = 2 ∨ k = 3 := by omega
      rcases hk with rfl | rfl | rfl | rfl
      · exact h0
      · exact h1
      · exact h2
      · exact h3
    have hk4 : (k : Int) < 4 := by omega
    clear h0 h1 h2 h3
    go_enter Tryd.func82, Tryd.ntmps82
    go_wp2_with (go_at_call 104; refine (ca _).mono ?_; rintro e w' ⟨rfl, rfl⟩)
    go_ret
    exact ⟨rfl, rfl⟩
theorem c_PriorityName (n : Int) (w : World) :
    Calls Tryd.prog 42 #[.int .i64 n] w fun e w' => e = .returned (.string (nameP n)) ∧ Below w.heap.size w w' := by
  go_enter Tryd.func42, Tryd.ntmps42
  go_wp2_with (go_at_call 82; refine (c_pickP n _ _ (by simp [go_sem]) (by simp [go_sem]; rfl) (by simp [go_sem]; rfl) (by simp [go_sem]; rfl)).mono ?_; rintro e w' ⟨rfl, rfl⟩)
  go_ret
  exact ⟨rfl, by (repeat' (first | (with_reducible exact Below.refl _ _) | (with_reducible refine Below.alloc ?_ ?_ _) | (with_reducible refine Below.drew ?_) | (with_reducible refine below_drewN ?_ _) | (with_reducible refine Below.setCell ?_ ?_ _) | (with_reducible refine below_via ‹_› ?_ ?_) | (with_reducible refine below_grow ?_ ?_ _ _) | omega | (simp; done) | (simp; omega)))⟩
theorem data_lenW (s : ByteArray) : s.data.toList.length = s.size := by simp
def wrnL (n p f u x y r : Int) (s : ByteArray) : List UInt8 := jn 32 [Lib.itoa n, (nameP p).data.toList, Lib.itoa f, Lib.itoa u, pointL x y, Lib.itoa r, s.data.toList]
def wrnS (n p f u x y r : Int) (s : ByteArray) : ByteArray := bs (wrnL n p f u x y r s)
def wrnR (n p f u x y r : Int) (s : ByteArray) : ByteArray := if warnB n p f u x y r s then wrnS n p f u x y r s else ⟨#[]⟩
theorem wrn_cat (n p f u r : Int) (pt : List UInt8) (s : ByteArray) :
    decS n ++ (⟨#[32]⟩ : ByteArray) ++ nameP p ++ (⟨#[32]⟩ : ByteArray) ++ decS f ++ (⟨#[32]⟩ : ByteArray) ++ decS u ++ (⟨#[32]⟩ : ByteArray) ++ bs pt ++ (⟨#[32]⟩ : ByteArray) ++ decS r ++ (⟨#[32]⟩ : ByteArray) ++ s = bs (jn 32 [Lib.itoa n, (nameP p).data.toList, Lib.itoa f, Lib.itoa u, pt, Lib.itoa r, s.data.toList]) := by
  have e : (⟨#[32]⟩ : ByteArray) = bs [32] := rfl
  have ed : ∀ m, decS m = bs (Lib.itoa m) := fun m => rfl
  rw [← bs_self s, ← bs_self (nameP p), e, ed, ed, ed, ed]
  simp only [bs_app, bs_list, jn_cons]
  simp [jn]
set_option maxHeartbeats 8000000 in
theorem c_l22Text (bk off : Nat) (n p f u x y r : Int) (s : ByteArray) (w : World) (hbk : bk < w.heap.size) (hs : (s.size : Int) ≤ 1048576) (hn : I64 n) (hf : I64 f) (hu : I64 u) (hx : I64 x) (hy : I64 y) (hr : I64 r) (hp1 : 1 ≤ p) (hp3 : p ≤ 3)
    (h0 : w.cell? ⟨bk, off, none⟩ = some (.int .i64 n)) (h1 : w.cell? ⟨bk, off+1, none⟩ = some (.int .i64 p)) (h2 : w.cell? ⟨bk, off+2, none⟩ = some (.int .i64 f)) (h3 : w.cell? ⟨bk, off+3, none⟩ = some (.int .i64 u)) (h4 : w.cell? ⟨bk, off+4, none⟩ = some (.int .i64 x)) (h5 : w.cell? ⟨bk, off+5, none⟩ = some (.int .i64 y)) (h6 : w.cell? ⟨bk, off+6, none⟩ = some (.int .i64 r)) (h7 : w.cell? ⟨bk, off+7, none⟩ = some (.string s)) :
    Calls Tryd.prog 37 #[.pointer (some ⟨bk, off, none⟩)] w fun e w' => e = .returned (.string (wrnS n p f u x y r s)) ∧ Below w.heap.size w w' := by
  have k0 : ∀ w', Gr w w' → w'.cell? ⟨bk, off, none⟩ = some (.int .i64 n) := fun w' h => below_cell h.out hbk h0
  have k1 : ∀ w', Gr w w' → w'.cell? ⟨bk, off+1, none⟩ = some (.int .i64 p) := fun w' h => below_cell h.out hbk h1
  have k2 : ∀ w', Gr w w' → w'.cell? ⟨bk, off+2, none⟩ = some (.int .i64 f) := fun w' h => below_cell h.out hbk h2
  have k3 : ∀ w', Gr w w' → w'.cell? ⟨bk, off+3, none⟩ = some (.int .i64 u) := fun w' h => below_cell h.out hbk h3
  have k4 : ∀ w', Gr w w' → w'.cell? ⟨bk, off+4, none⟩ = some (.int .i64 x) := fun w' h => below_cell h.out hbk h4
  have k5 : ∀ w', Gr w w' → w'.cell? ⟨bk, off+5, none⟩ = some (.int .i64 y) := fun w' h => below_cell h.out hbk h5
  have k5' : ∀ w', Gr w w' → w'.cell? ⟨bk, off+4+1, none⟩ = some (.int .i64 y) := k5
  have k6 : ∀ w', Gr w w' → w'.cell? ⟨bk, off+6, none⟩ = some (.int .i64 r) := fun w' h => below_cell h.out hbk h6
  have k7 : ∀ w', Gr w w' → w'.cell? ⟨bk, off+7, none⟩ = some (.string s) := fun w' h => below_cell h.out hbk h7
  obtain ⟨pl, hpl⟩ : ∃ pl, pl = pointL x y := ⟨_, rfl⟩
  have hpz := pointL_size hx hy
  have HC := hid (wrn_cat n p f u r pl s)
  obtain ⟨pt, hpt⟩ : ∃ pt, pt = bs pl := ⟨_, rfl⟩
  have hptz : pt.size = (pointL x y).length := by rw [hpt, hpl, bs_size]
  have cp : ∀ w', Calls Tryd.prog 71 #[.agg #[.int .i64 x, .int .i64 y]] w' fun e w'' => e = .returned (.string pt) ∧ Below w'.heap.size w' w'' := fun w' => by rw [hpt, hpl]; exact c_l02Text x y w' hx hy
  have HR := hid (show wrnS n p f u x y r s = decS n ++ (⟨#[32]⟩ : ByteArray) ++ nameP p ++ (⟨#[32]⟩ : ByteArray) ++ decS f ++ (⟨#[32]⟩ : ByteArray) ++ decS u ++ (⟨#[32]⟩ : ByteArray) ++ pt ++ (⟨#[32]⟩ : ByteArray) ++ decS r ++ (⟨#[32]⟩ : ByteArray) ++ s by
    rw [hpt, HC.out, wrnS, wrnL, ← hpl])
  have zn := decS_size hn
  have zf := decS_size hf
  have zu := decS_size hu
  have zr := decS_size hr
  have zp := nameP_size p
  have zt : pt.size ≤ 1000 := by have h := hpz; rw [bs_size] at h; omega
  clear HC hpt hpl hptz hpz h0 h1 h2 h3 h4 h5 h6 h7
  obtain ⟨q, hq⟩ : ∃ q : Nat, p - 1 = q := ⟨(p - 1).toNat, by omega⟩
  have hqw : IntKind.i64.wrap (p - 1) = (q : Int) := by rw [IntWalk.i64_in _ (by omega)]; exact hq
  have hq3 : (q : Int) < 3 := by omega
  have hq3n : q < 3 := by omega
  have HQ := hid (show p = (q : Int) + 1 by omega)
  clear hq
  obtain ⟨r0, r0'⟩ := big_no (n := (decS n).size) (by omega)
  obtain ⟨r1, r1'⟩ := big_no (n := (decS n).size + 1) (by omega)
  obtain ⟨r2, r2'⟩ := big_no (n := (decS n).size + 1 + (nameP p).size) (by omega)
  obtain ⟨r3, r3'⟩ := big_no (n := (decS n).size + 1 + (nameP p).size + 1) (by omega)
  obtain ⟨r4, r4'⟩ := big_no (n := (decS n).size + 1 + (nameP p).size + 1 + (decS f).size) (by omega)
  obtain ⟨r5, r5'⟩ := big_no (n := (decS n).size + 1 + (nameP p).size + 1 + (decS f).size + 1) (by omega)
  obtain ⟨r6, r6'⟩ := big_no (n := (decS n).size + 1 + (nameP p).size + 1 + (decS f).size + 1 + (decS u).size) (by omega)
  obtain ⟨r7, r7'⟩ := big_no (n := (decS n).size + 1 + (nameP p).size + 1 + (decS f).size + 1 + (decS u).size + 1) (by omega)
  obtain ⟨r8, r8'⟩ := big_no (n := (decS n).size + 1 + (nameP p).size + 1 + (decS f).size + 1 + (decS u).size + 1 + pt.size) (by omega)
  obtain ⟨r9, r9'⟩ := big_no (n := (decS n).size + 1 + (nameP p).size + 1 + (decS f).size + 1 + (decS u).size + 1 + pt.size + 1) (by omega)
  obtain ⟨r10, r10'⟩ := big_no (n := (decS n).size + 1 + (nameP p).size + 1 + (decS f).size + 1 + (decS u).size + 1 + pt.size + 1 + (decS r).size) (by omega)
  obtain ⟨r11, r11'⟩ := big_no (n := (decS n).size + 1 + (nameP p).size + 1 + (decS f).size + 1 + (decS u).size + 1 + pt.size + 1 + (decS r).size + 1) (by omega)
  obtain ⟨r12, r12'⟩ := big_no (n := (decS n).size + 1 + (nameP p).size + 1 + (decS f).size + 1 + (decS u).size + 1 + pt.size + 1 + (decS r).size + 1 + s.size) (by omega)
  go_enter Tryd.func37, Tryd.ntmps37
  go_wp2_with fail
  refine hg_region 50 (by rfl) (by kernel_rfl) ?_
  refine hg_take (i := 0) (v := ?_) (by first | (simp only [List.getElem?_toArray, List.getElem?_cons_succ, List.getElem?_cons_zero]; done) | (simp only [List.getElem?_toArray, List.getElem?_cons_succ, List.getElem?_cons_zero]; rfl)) (by kernel_rfl) (by kernel_rfl) (by kernel_rfl) (by exact fun _ _ _ h => h) (yg_val (by rfl) ?_) ?_
  rotate_left
  · intro w' hw'; first | (go_simp; done) | (go_simp; with_reducible rfl)
  simp only [Act.put, List.setIfInBounds_toArray, List.set_cons_zero, List.set_cons_succ]
  refine hg_take (i := 1) (v := ?_) (by first | (simp only [List.getElem?_toArray, List.getElem?_cons_succ, List.getElem?_cons_zero]; done) | (simp only [List.getElem?_toArray, List.getElem?_cons_succ, List.getElem?_cons_zero]; rfl)) (by kernel_rfl) (by kernel_rfl) (by kernel_rfl) (by exact fun _ _ _ h => h) (yg_val (by rfl) ?_) ?_
  rotate_left
  · intro w' hw'; first | (go_simp; done) | (go_simp; with_reducible rfl)
  simp only [Act.put, List.setIfInBounds_toArray, List.set_cons_zero, List.set_cons_succ]
  refine hg_take (i := 2) (v := ?_) (by first | (simp only [List.getElem?_toArray, List.getElem?_cons_succ, List.getElem?_cons_zero]; done) | (simp only [List.getElem?_toArray, List.getElem?_cons_succ, List.getElem?_cons_zero]; rfl)) (by kernel_rfl) (by kernel_rfl) (by kernel_rfl) (by exact fun _ _ _ h => h) (yg_val (by rfl) ?_) ?_
  rotate_left
  · intro w' hw'; first | (go_simp; done) | (go_simp; with_reducible rfl)
  simp only [Act.put, List.setIfInBounds_toArray, List.set_cons_zero, List.set_cons_succ]
  refine hg_take (i := 3) (v := ?_) (by first | (simp only [List.getElem?_toArray, List.getElem?_cons_succ, List.getElem?_cons_zero]; done) | (simp only [List.getElem?_toArray, List.getElem?_cons_succ, List.getElem?_cons_zero]; rfl)) (by kernel_rfl) (by kernel_rfl) (by kernel_rfl) (by exact fun _ _ _ h => h) (yg_val (by rfl) ?_) ?_
  rotate_left
  · intro w' hw'; first | (go_simp; done) | (go_simp; with_reducible rfl)
  simp only [Act.put, List.setIfInBounds_toArray, List.set_cons_zero, List.set_cons_succ]
  refine hg_take (i := 7) (v := ?_) (by first | (simp only [List.getElem?_toArray, List.getElem?_cons_succ, List.getElem?_cons_zero]; done) | (simp only [List.getElem?_toArray, List.getElem?_cons_succ, List.getElem?_cons_zero]; rfl)) (by kernel_rfl) (by kernel_rfl) (by kernel_rfl) (by exact fun _ _ _ h => h) (yg_val (by rfl) ?_) ?_
  rotate_left
  · intro w' hw'; first | (go_simp; done) | (go_simp; with_reducible rfl)
  simp only [Act.put, List.setIfInBounds_toArray, List.set_cons_zero, List.set_cons_succ]
  refine hg_take (i := 8) (v := ?_) (by first | (simp only [List.getElem?_toArray, List.getElem?_cons_succ, List.getElem?_cons_zero]; done) | (simp only [List.getElem?_toArray, List.getElem?_cons_succ, List.getElem?_cons_zero]; rfl)) (by kernel_rfl) (by kernel_rfl) (by kernel_rfl) (by exact fun _ _ _ h => h) (yg_val (by rfl) ?_) ?_
  rotate_left
  · intro w' hw'; first | (go_simp; done) | (go_simp; with_reducible rfl)
  simp only [Act.put, List.setIfInBounds_toArray, List.set_cons_zero, List.set_cons_succ]
  refine hg_take (i := 9) (v := ?_) (by first | (simp only [List.getElem?_toArray, List.getElem?_cons_succ, List.getElem?_cons_zero]; done) | (simp only [List.getElem?_toArray, List.getElem?_cons_succ, List.getElem?_cons_zero]; rfl)) (by kernel_rfl) (by kernel_rfl) (by kernel_rfl) (by exact fun _ _ _ h => h) (yg_val (by rfl) ?_) ?_
  rotate_left
  · intro w' hw'; first | (go_simp; done) | (go_simp; with_reducible rfl)
  simp only [Act.put, List.setIfInBounds_toArray, List.set_cons_zero, List.set_cons_succ]
  refine hg_take (i := 10) (v := ?_) (by first | (simp only [List.getElem?_toArray, List.getElem?_cons_succ, List.getElem?_cons_zero]; done) | (simp only [List.getElem?_toArray, List.getElem?_cons_succ, List.getElem?_cons_zero]; rfl)) (by kernel_rfl) (by kernel_rfl) (by kernel_rfl) (by exact fun _ _ _ h => h) (yg_val (by rfl) ?_) ?_
  rotate_left
  · intro w' hw'; first | (go_simp; done) | (go_simp; with_reducible rfl)
  simp only [Act.put, List.setIfInBounds_toArray, List.set_cons_zero, List.set_cons_succ]
  refine hg_take (i := 11) (v := ?_) (by first | (simp only [List.getElem?_toArray, List.getElem?_cons_succ, List.getElem?_cons_zero]; done) | (simp only [List.getElem?_toArray, List.getElem?_cons_succ, List.getElem?_cons_zero]; rfl)) (by kernel_rfl) (by kernel_rfl) (by kernel_rfl) (by exact fun _ _ _ h => h) (yg_val (by rfl) ?_) ?_
  rotate_left
  · intro w' hw'; first | (go_simp; done) | (go_simp; with_reducible rfl)
  simp only [Act.put, List.setIfInBounds_toArray, List.set_cons_zero, List.set_cons_succ]
  refine hg_take (i := 16) (v := ?_) (by first | (simp only [List.getElem?_toArray, List.getElem?_cons_succ, List.getElem?_cons_zero]; done) | (simp only [List.getElem?_toArray, List.getElem?_cons_succ, List.getElem?_cons_zero]; rfl)) (by kernel_rfl) (by kernel_rfl) (by kernel_rfl) (by exact fun _ _ _ h => h) (yg_val (by rfl) ?_) ?_
  rotate_left
  · intro w' hw'; first | (go_simp; done) | (go_simp; with_reducible rfl)
  simp only [Act.put, List.setIfInBounds_toArray, List.set_cons_zero, List.set_cons_succ]
  refine hg_take (i := 17) (v := ?_) (by first | (simp only [List.getElem?_toArray, List.getElem?_cons_succ, List.getElem?_cons_zero]; done) | (simp only [List.getElem?_toArray, List.getElem?_cons_succ, List.getElem?_cons_zero]; rfl)) (by kernel_rfl) (by kernel_rfl) (by kernel_rfl) (by exact fun _ _ _ h => h) (yg_val (by rfl) ?_) ?_
  rotate_left
  · intro w' hw'; first | (go_simp; done) | (go_simp; with_reducible rfl)
  simp only [Act.put, List.setIfInBounds_toArray, List.set_cons_zero, List.set_cons_succ]
  refine hg_take (i := 18) (v := ?_) (by first | (simp only [List.getElem?_toArray, List.getElem?_cons_succ, List.getElem?_cons_zero]; done) | (simp only [List.getElem?_toArray, List.getElem?_cons_succ, List.getElem?_cons_zero]; rfl)) (by kernel_rfl) (by kernel_rfl) (by kernel_rfl) (by exact fun _ _ _ h => h) (yg_val (by rfl) ?_) ?_
  rotate_left
  · intro w' hw'; first | (go_simp; done) | (go_simp; with_reducible rfl)
  simp only [Act.put, List.setIfInBounds_toArray, List.set_cons_zero, List.set_cons_succ]
  refine hg_take (i := 19) (v := ?_) (by first | (simp only [List.getElem?_toArray, List.getElem?_cons_succ, List.getElem?_cons_zero]; done) | (simp only [List.getElem?_toArray, List.getElem?_cons_succ, List.getElem?_cons_zero]; rfl)) (by kernel_rfl) (by kernel_rfl) (by kernel_rfl) (by exact fun _ _ _ h => h) (yg_val (by rfl) ?_) ?_
  rotate_left
  · intro w' hw'; first | (go_simp; done) | (go_simp; with_reducible rfl)
  simp only [Act.put, List.setIfInBounds_toArray, List.set_cons_zero, List.set_cons_succ]
  refine hg_take (i := 23) (v := ?_) (by first | (simp only [List.getElem?_toArray, List.getElem?_cons_succ, List.getElem?_cons_zero]; done) | (simp only [List.getElem?_toArray, List.getElem?_cons_succ, List.getElem?_cons_zero]; rfl)) (by kernel_rfl) (by kernel_rfl) (by kernel_rfl) (by exact fun _ _ _ h => h) (yg_val (by rfl) ?_) ?_
  rotate_left
  · intro w' hw'; first | (go_simp; done) | (go_simp; with_reducible rfl)
  simp only [Act.put, List.setIfInBounds_toArray, List.set_cons_zero, List.set_cons_succ]
  refine hg_take (i := 24) (v := ?_) (by first | (simp only [List.getElem?_toArray, List.getElem?_cons_succ, List.getElem?_cons_zero]; done) | (simp only [List.getElem?_toArray, List.getElem?_cons_succ, List.getElem?_cons_zero]; rfl)) (by kernel_rfl) (by kernel_rfl) (by kernel_rfl) (by exact fun _ _ _ h => h) (yg_val (by rfl) ?_) ?_
  rotate_left
  · intro w' hw'; first | (go_simp; done) | (go_simp; with_reducible rfl)
  simp only [Act.put, List.setIfInBounds_toArray, List.set_cons_zero, List.set_cons_succ]
  refine hg_take (i := 25) (v := ?_) (by first | (simp only [List.getElem?_toArray, List.getElem?_cons_succ, List.getElem?_cons_zero]; done) | (simp only [List.getElem?_toArray, List.getElem?_cons_succ, List.getElem?_cons_zero]; rfl)) (by kernel_rfl) (by kernel_rfl) (by kernel_rfl) (by exact fun _ _ _ h => h) (yg_val (by rfl) ?_) ?_
  rotate_left
  · intro w' hw'; first | (go_simp; done) | (go_simp; with_reducible rfl)
  simp only [Act.put, List.setIfInBounds_toArray, List.set_cons_zero, List.set_cons_succ]
  refine hg_take (i := 26) (v := ?_) (by first | (simp only [List.getElem?_toArray, List.getElem?_cons_succ, List.getElem?_cons_zero]; done) | (simp only [List.getElem?_toArray, List.getElem?_cons_succ, List.getElem?_cons_zero]; rfl)) (by kernel_rfl) (by kernel_rfl) (by kernel_rfl) (by exact fun _ _ _ h => h) (yg_val (by rfl) ?_) ?_
  rotate_left
  · intro w' hw'; first | (go_simp; done) | (go_simp; with_reducible rfl)
  simp only [Act.put, List.setIfInBounds_toArray, List.set_cons_zero, List.set_cons_succ]
  refine hg_take (i := 30) (v := ?_) (by first | (simp only [List.getElem?_toArray, List.getElem?_cons_succ, List.getElem?_cons_zero]; done) | (simp only [List.getElem?_toArray, List.getElem?_cons_succ, List.getElem?_cons_zero]; rfl)) (by kernel_rfl) (by kernel_rfl) (by kernel_rfl) (by exact fun _ _ _ h => h) (yg_val (by rfl) ?_) ?_
  rotate_left
  · intro w' hw'; first | (go_simp; done) | (go_simp; with_reducible rfl)
  simp only [Act.put, List.setIfInBounds_toArray, List.set_cons_zero, List.set_cons_succ]
  refine hg_take (i := 31) (v := ?_) (by first | (simp only [List.getElem?_toArray, List.getElem?_cons_succ, List.getElem?_cons_zero]; done) | (simp only [List.getElem?_toArray, List.getElem?_cons_succ, List.getElem?_cons_zero]; rfl)) (by kernel_rfl) (by kernel_rfl) (by kernel_rfl) (by exact fun _ _ _ h => h) (yg_val (by rfl) ?_) ?_
  rotate_left
  · intro w' hw'; first | (go_simp; done) | (go_simp; with_reducible rfl)
  simp only [Act.put, List.setIfInBounds_toArray, List.set_cons_zero, List.set_cons_succ]
  refine hg_take (i := 32) (v := ?_) (by first | (simp only [List.getElem?_toArray, List.getElem?_cons_succ, List.getElem?_cons_zero]; done) | (simp only [List.getElem?_toArray, List.getElem?_cons_succ, List.getElem?_cons_zero]; rfl)) (by kernel_rfl) (by kernel_rfl) (by kernel_rfl) (by exact fun _ _ _ h => h) (yg_val (by rfl) ?_) ?_
  rotate_left
  · intro w' hw'; first | (go_simp; done) | (go_simp; with_reducible rfl)
  simp only [Act.put, List.setIfInBounds_toArray, List.set_cons_zero, List.set_cons_succ]
  refine hg_take (i := 33) (v := ?_) (by first | (simp only [List.getElem?_toArray, List.getElem?_cons_succ, List.getElem?_cons_zero]; done) | (simp only [List.getElem?_toArray, List.getElem?_cons_succ, List.getElem?_cons_zero]; rfl)) (by kernel_rfl) (by kernel_rfl) (by kernel_rfl) (by exact fun _ _ _ h => h) (yg_val (by rfl) ?_) ?_
  rotate_left
  · intro w' hw'; first | (go_simp; done) | (go_simp; with_reducible rfl)
  simp only [Act.put, List.setIfInBounds_toArray, List.set_cons_zero, List.set_cons_succ]
  refine hg_take (i := 37) (v := ?_) (by first | (simp only [List.getElem?_toArray, List.getElem?_cons_succ, List.getElem?_cons_zero]; done) | (simp only [List.getElem?_toArray, List.getElem?_cons_succ, List.getElem?_cons_zero]; rfl)) (by kernel_rfl) (by kernel_rfl) (by kernel_rfl) (by exact fun _ _ _ h => h) (yg_val (by rfl) ?_) ?_
  rotate_left
  · intro w' hw'; first | (go_simp; done) | (go_simp; with_reducible rfl)
  simp only [Act.put, List.setIfInBounds_toArray, List.set_cons_zero, List.set_cons_succ]
  refine hg_take (i := 38) (v := ?_) (by first | (simp only [List.getElem?_toArray, List.getElem?_cons_succ, List.getElem?_cons_zero]; done) | (simp only [List.getElem?_toArray, List.getElem?_cons_succ, List.getElem?_cons_zero]; rfl)) (by kernel_rfl) (by kernel_rfl) (by kernel_rfl) (by exact fun _ _ _ h => h) (yg_val (by rfl) ?_) ?_
  rotate_left
  · intro w' hw'; first | (go_simp; done) | (go_simp; with_reducible rfl)
  simp only [Act.put, List.setIfInBounds_toArray, List.set_cons_zero, List.set_cons_succ]
  refine hg_take (i := 39) (v := ?_) (by first | (simp only [List.getElem?_toArray, List.getElem?_cons_succ, List.getElem?_cons_zero]; done) | (simp only [List.getElem?_toArray, List.getElem?_cons_succ, List.getElem?_cons_zero]; rfl)) (by kernel_rfl) (by kernel_rfl) (by kernel_rfl) (by exact fun _ _ _ h => h) (yg_val (by rfl) ?_) ?_
  rotate_left
  · intro w' hw'; first | (go_simp; done) | (go_simp; with_reducible rfl)
  simp only [Act.put, List.setIfInBounds_toArray, List.set_cons_zero, List.set_cons_succ]
  refine hg_take (i := 40) (v := ?_) (by first | (simp only [List.getElem?_toArray, List.getElem?_cons_succ, List.getElem?_cons_zero]; done) | (simp only [List.getElem?_toArray, List.getElem?_cons_succ, List.getElem?_cons_zero]; rfl)) (by kernel_rfl) (by kernel_rfl) (by kernel_rfl) (by exact fun _ _ _ h => h) (yg_val (by rfl) ?_) ?_
  rotate_left
  · intro w' hw'; first | (go_simp; done) | (go_simp; with_reducible rfl)
  simp only [Act.put, List.setIfInBounds_toArray, List.set_cons_zero, List.set_cons_succ]
  refine hg_take (i := 44) (v := ?_) (by first | (simp only [List.getElem?_toArray, List.getElem?_cons_succ, List.getElem?_cons_zero]; done) | (simp only [List.getElem?_toArray, List.getElem?_cons_succ, List.getElem?_cons_zero]; rfl)) (by kernel_rfl) (by kernel_rfl) (by kernel_rfl) (by exact fun _ _ _ h => h) (yg_val (by rfl) ?_) ?_
  rotate_left
  · intro w' hw'; first | (go_simp; done) | (go_simp; with_reducible rfl)
  simp only [Act.put, List.setIfInBounds_toArray, List.set_cons_zero, List.set_cons_succ]
  refine hg_take (i := 45) (v := ?_) (by first | (simp only [List.getElem?_toArray, List.getElem?_cons_succ, List.getElem?_cons_zero]; done) | (simp only [List.getElem?_toArray, List.getElem?_cons_succ, List.getElem?_cons_zero]; rfl)) (by kernel_rfl) (by kernel_rfl) (by kernel_rfl) (by exact fun _ _ _ h => h) (yg_val (by rfl) ?_) ?_
  rotate_left
  · intro w' hw'; first | (go_simp; done) | (go_simp; with_reducible rfl)
  simp only [Act.put, List.setIfInBounds_toArray, List.set_cons_zero, List.set_cons_succ]
  refine hg_take (i := 46) (v := ?_) (by first | (simp only [List.getElem?_toArray, List.getElem?_cons_succ, List.getElem?_cons_zero]; done) | (simp only [List.getElem?_toArray, List.getElem?_cons_succ, List.getElem?_cons_zero]; rfl)) (by kernel_rfl) (by kernel_rfl) (by kernel_rfl) (by exact fun _ _ _ h => h) (yg_val (by rfl) ?_) ?_
  rotate_left
  · intro w' hw'; first | (go_simp; done) | (go_simp; with_reducible rfl)
  simp only [Act.put, List.setIfInBounds_toArray, List.set_cons_zero, List.set_cons_succ]
  refine hg_take (i := 47) (v := ?_) (by first | (simp only [List.getElem?_toArray, List.getElem?_cons_succ, List.getElem?_cons_zero]; done) | (simp only [List.getElem?_toArray, List.getElem?_cons_succ, List.getElem?_cons_zero]; rfl)) (by kernel_rfl) (by kernel_rfl) (by kernel_rfl) (by exact fun _ _ _ h => h) (yg_val (by rfl) ?_) ?_
  rotate_left
  · intro w' hw'; first | (go_simp; done) | (go_simp; with_reducible rfl)
  simp only [Act.put, List.setIfInBounds_toArray, List.set_cons_zero, List.set_cons_succ]
  refine hg_take (i := 4) (v := .string (decS n)) (by first | (simp only [List.getElem?_toArray, List.getElem?_cons_succ, List.getElem?_cons_zero]; done) | (simp only [List.getElem?_toArray, List.getElem?_cons_succ, List.getElem?_cons_zero]; rfl)) (by kernel_rfl) (by kernel_rfl) (by kernel_rfl) (by exact fun _ _ _ h => h) (yg_call (f := 63) (args := #[.int .i64 n]) (by rfl) ?_ ?_) ?_
  · intro w'; first | (go_simp; done) | (go_simp; with_reducible rfl)
  · intro w' hw'; exact c_l01Dec n w' hn
  simp only [Act.put, List.setIfInBounds_toArray, List.set_cons_zero, List.set_cons_succ]
  refine hg_take (i := 5) (v := ?_) (by first | (simp only [List.getElem?_toArray, List.getElem?_cons_succ, List.getElem?_cons_zero]; done) | (simp only [List.getElem?_toArray, List.getElem?_cons_succ, List.getElem?_cons_zero]; rfl)) (by kernel_rfl) (by kernel_rfl) (by kernel_rfl) (by exact fun _ _ _ h => h) (yg_val (by rfl) ?_) ?_
  rotate_left
  · intro w' hw'; first | (go_simp; done) | (go_simp; with_reducible rfl)
  simp only [Act.put, List.setIfInBounds_toArray, List.set_cons_zero, List.set_cons_succ]
  refine hg_one (i := 6) (by first | (simp only [List.getElem?_toArray, List.getElem?_cons_succ, List.getElem?_cons_zero]; done) | (simp only [List.getElem?_toArray, List.getElem?_cons_succ, List.getElem?_cons_zero]; rfl)) (by kernel_rfl) (by rfl) fun w1 hw1 K hK => ?_
  go_simp
  refine (c_l22Names _).mono ?_
  rintro e w2 ⟨b, rfl, hb2, hN⟩
  refine hK _ _ (gr_of hb2) ?_
  have m0 : ∀ w', Gr w2 w' → w'.cell? ⟨b, q, none⟩ = some (.string (nameP p)) := fun w' h => (hN.at h.out).get HQ.out hq3n
  have hB2 : Below w.heap.size w w2 := (hw1.trans (gr_of hb2)).out
  clear hN hK hb2 hw1 k0 k1 k2 k3 k4 k5 k5' k6 k7
  refine hg_take (i := 12) (v := ?_) (by first | (simp only [List.getElem?_toArray, List.getElem?_cons_succ, List.getElem?_cons_zero]; done) | (simp only [List.getElem?_toArray, List.getElem?_cons_succ, List.getElem?_cons_zero]; rfl)) (by kernel_rfl) (by kernel_rfl) (by kernel_rfl) (by exact fun _ _ _ h => h) (yg_val (by rfl) ?_) ?_
  rotate_left
  · intro w' hw'; first | (go_simp; done) | (go_simp; with_reducible rfl)
  simp only [Act.put, List.setIfInBounds_toArray, List.set_cons_zero, List.set_cons_succ]
  refine hg_take (i := 13) (v := ?_) (by first | (simp only [List.getElem?_toArray, List.getElem?_cons_succ, List.getElem?_cons_zero]; done) | (simp only [List.getElem?_toArray, List.getElem?_cons_succ, List.getElem?_cons_zero]; rfl)) (by kernel_rfl) (by kernel_rfl) (by kernel_rfl) (by exact fun _ _ _ h => h) (yg_val (by rfl) ?_) ?_
  rotate_left
  · intro w' hw'; first | (go_simp; done) | (go_simp; with_reducible rfl)
  simp only [Act.put, List.setIfInBounds_toArray, List.set_cons_zero, List.set_cons_succ]
  refine hg_take (i := 14) (v := ?_) (by first | (simp only [List.getElem?_toArray, List.getElem?_cons_succ, List.getElem?_cons_zero]; done) | (simp only [List.getElem?_toArray, List.getElem?_cons_succ, List.getElem?_cons_zero]; rfl)) (by kernel_rfl) (by kernel_rfl) (by kernel_rfl) (by exact fun _ _ _ h => h) (yg_val (by rfl) ?_) ?_
  rotate_left
  · intro w' hw'; first | (go_simp; done) | (go_simp; with_reducible rfl)
  simp only [Act.put, List.setIfInBounds_toArray, List.set_cons_zero, List.set_cons_succ]
  refine hg_take (i := 15) (v := ?_) (by first | (simp only [List.getElem?_toArray, List.getElem?_cons_succ, List.getElem?_cons_zero]; done) | (simp only [List.getElem?_toArray, List.getElem?_cons_succ, List.getElem?_cons_zero]; rfl)) (by kernel_rfl) (by kernel_rfl) (by kernel_rfl) (by exact fun _ _ _ h => h) (yg_val (by rfl) ?_) ?_
  rotate_left
  · intro w' hw'; first | (go_simp; done) | (go_simp; with_reducible rfl)
  simp only [Act.put, List.setIfInBounds_toArray, List.set_cons_zero, List.set_cons_succ]
  refine hg_take (i := 20) (v := .string (decS f)) (by first | (simp only [List.getElem?_toArray, List.getElem?_cons_succ, List.getElem?_cons_zero]; done) | (simp only [List.getElem?_toArray, List.getElem?_cons_succ, List.getElem?_cons_zero]; rfl)) (by kernel_rfl) (by kernel_rfl) (by kernel_rfl) (by exact fun _ _ _ h => h) (yg_call (f := 63) (args := #[.int .i64 f]) (by rfl) ?_ ?_) ?_
  · intro w'; first | (go_simp; done) | (go_simp; with_reducible rfl)
  · intro w' hw'; exact c_l01Dec f w' hf
  simp only [Act.put, List.setIfInBounds_toArray, List.set_cons_zero, List.set_cons_succ]
  refine hg_take (i := 21) (v := ?_) (by first | (simp only [List.getElem?_toArray, List.getElem?_cons_succ, List.getElem?_cons_zero]; done) | (simp only [List.getElem?_toArray, List.getElem?_cons_succ, List.getElem?_cons_zero]; rfl)) (by kernel_rfl) (by kernel_rfl) (by kernel_rfl) (by exact fun _ _ _ h => h) (yg_val (by rfl) ?_) ?_
  rotate_left
  · intro w' hw'; first | (go_simp; done) | (go_simp; with_reducible rfl)
  simp only [Act.put, List.setIfInBounds_toArray, List.set_cons_zero, List.set_cons_succ]
  refine hg_take (i := 22) (v := ?_) (by first | (simp only [List.getElem?_toArray, List.getElem?_cons_succ, List.getElem?_cons_zero]; done) | (simp only [List.getElem?_toArray, List.getElem?_cons_succ, List.getElem?_cons_zero]; rfl)) (by kernel_rfl) (by kernel_rfl) (by kernel_rfl) (by exact fun _ _ _ h => h) (yg_val (by rfl) ?_) ?_
  rotate_left
  · intro w' hw'; first | (go_simp; done) | (go_simp; with_reducible rfl)
  simp only [Act.put, List.setIfInBounds_toArray, List.set_cons_zero, List.set_cons_succ]
  refine hg_take (i := 27) (v := .string (decS u)) (by first | (simp only [List.getElem?_toArray, List.getElem?_cons_succ, List.getElem?_cons_zero]; done) | (simp only [List.getElem?_toArray, List.getElem?_cons_succ, List.getElem?_cons_zero]; rfl)) (by kernel_rfl) (by kernel_rfl) (by kernel_rfl) (by exact fun _ _ _ h => h) (yg_call (f := 63) (args := #[.int .i64 u]) (by rfl) ?_ ?_) ?_
  · intro w'; first | (go_simp; done) | (go_simp; with_reducible rfl)
  · intro w' hw'; exact c_l01Dec u w' hu
  simp only [Act.put, List.setIfInBounds_toArray, List.set_cons_zero, List.set_cons_succ]
  refine hg_take (i := 28) (v := ?_) (by first | (simp only [List.getElem?_toArray, List.getElem?_cons_succ, List.getElem?_cons_zero]; done) | (simp only [List.getElem?_toArray, List.getElem?_cons_succ, List.getElem?_cons_zero]; rfl)) (by kernel_rfl) (by kernel_rfl) (by kernel_rfl) (by exact fun _ _ _ h => h) (yg_val (by rfl) ?_) ?_
  rotate_left
  · intro w' hw'; first | (go_simp; done) | (go_simp; with_reducible rfl)
  simp only [Act.put, List.setIfInBounds_toArray, List.set_cons_zero, List.set_cons_succ]
  refine hg_take (i := 29) (v := ?_) (by first | (simp only [List.getElem?_toArray, List.getElem?_cons_succ, List.getElem?_cons_zero]; done) | (simp only [List.getElem?_toArray, List.getElem?_cons_succ, List.getElem?_cons_zero]; rfl)) (by kernel_rfl) (by kernel_rfl) (by kernel_rfl) (by exact fun _ _ _ h => h) (yg_val (by rfl) ?_) ?_
  rotate_left
  · intro w' hw'; first | (go_simp; done) | (go_simp; with_reducible rfl)
  simp only [Act.put, List.setIfInBounds_toArray, List.set_cons_zero, List.set_cons_succ]
  refine hg_take (i := 34) (v := .string pt) (by first | (simp only [List.getElem?_toArray, List.getElem?_cons_succ, List.getElem?_cons_zero]; done) | (simp only [List.getElem?_toArray, List.getElem?_cons_succ, List.getElem?_cons_zero]; rfl)) (by kernel_rfl) (by kernel_rfl) (by kernel_rfl) (by exact fun _ _ _ h => h) (yg_call (f := 71) (args := #[.agg #[.int .i64 x, .int .i64 y]]) (by rfl) ?_ ?_) ?_
  · intro w'; first | (go_simp; done) | (go_simp; with_reducible rfl)
  · intro w' hw'; exact cp w'
  simp only [Act.put, List.setIfInBounds_toArray, List.set_cons_zero, List.set_cons_succ]
  refine hg_take (i := 35) (v := ?_) (by first | (simp only [List.getElem?_toArray, List.getElem?_cons_succ, List.getElem?_cons_zero]; done) | (simp only [List.getElem?_toArray, List.getElem?_cons_succ, List.getElem?_cons_zero]; rfl)) (by kernel_rfl) (by kernel_rfl) (by kernel_rfl) (by exact fun _ _ _ h => h) (yg_val (by rfl) ?_) ?_
  rotate_left
  · intro w' hw'; first | (go_simp; done) | (go_simp; with_reducible rfl)
  simp only [Act.put, List.setIfInBounds_toArray, List.set_cons_zero, List.set_cons_succ]
  refine hg_take (i := 36) (v := ?_) (by first | (simp only [List.getElem?_toArray, List.getElem?_cons_succ, List.getElem?_cons_zero]; done) | (simp only [List.getElem?_toArray, List.getElem?_cons_succ, List.getElem?_cons_zero]; rfl)) (by kernel_rfl) (by kernel_rfl) (by kernel_rfl) (by exact fun _ _ _ h => h) (yg_val (by rfl) ?_) ?_
  rotate_left
  · intro w' hw'; first | (go_simp; done) | (go_simp; with_reducible rfl)
  simp only [Act.put, List.setIfInBounds_toArray, List.set_cons_zero, List.set_cons_succ]
  refine hg_take (i := 41) (v := .string (decS r)) (by first | (simp only [List.getElem?_toArray, List.getElem?_cons_succ, List.getElem?_cons_zero]; done) | (simp only [List.getElem?_toArray, List.getElem?_cons_succ, List.getElem?_cons_zero]; rfl)) (by kernel_rfl) (by kernel_rfl) (by kernel_rfl) (by exact fun _ _ _ h => h) (yg_call (f := 63) (args := #[.int .i64 r]) (by rfl) ?_ ?_) ?_
  · intro w'; first | (go_simp; done) | (go_simp; with_reducible rfl)
  · intro w' hw'; exact c_l01Dec r w' hr
  simp only [Act.put, List.setIfInBounds_toArray, List.set_cons_zero, List.set_cons_succ]
  refine hg_take (i := 42) (v := ?_) (by first | (simp only [List.getElem?_toArray, List.getElem?_cons_succ, List.getElem?_cons_zero]; done) | (simp only [List.getElem?_toArray, List.getElem?_cons_succ, List.getElem?_cons_zero]; rfl)) (by kernel_rfl) (by kernel_rfl) (by kernel_rfl) (by exact fun _ _ _ h => h) (yg_val (by rfl) ?_) ?_
  rotate_left
  · intro w' hw'; first | (go_simp; done) | (go_simp; with_reducible rfl)
  simp only [Act.put, List.setIfInBounds_toArray, List.set_cons_zero, List.set_cons_succ]
  refine hg_take (i := 43) (v := ?_) (by first | (simp only [List.getElem?_toArray, List.getElem?_cons_succ, List.getElem?_cons_zero]; done) | (simp only [List.getElem?_toArray, List.getElem?_cons_succ, List.getElem?_cons_zero]; rfl)) (by kernel_rfl) (by kernel_rfl) (by kernel_rfl) (by exact fun _ _ _ h => h) (yg_val (by rfl) ?_) ?_
  rotate_left
  · intro w' hw'; first | (go_simp; done) | (go_simp; with_reducible rfl)
  simp only [Act.put, List.setIfInBounds_toArray, List.set_cons_zero, List.set_cons_succ]
  refine hg_take (i := 48) (v := ?_) (by first | (simp only [List.getElem?_toArray, List.getElem?_cons_succ, List.getElem?_cons_zero]; done) | (simp only [List.getElem?_toArray, List.getElem?_cons_succ, List.getElem?_cons_zero]; rfl)) (by kernel_rfl) (by kernel_rfl) (by kernel_rfl) (by exact fun _ _ _ h => h) (yg_val (by rfl) ?_) ?_
  rotate_left
  · intro w' hw'; first | (go_simp; done) | (go_simp; with_reducible rfl)
  simp only [Act.put, List.setIfInBounds_toArray, List.set_cons_zero, List.set_cons_succ]
  refine hg_take (i := 49) (v := ?_) (by first | (simp only [List.getElem?_toArray, List.getElem?_cons_succ, List.getElem?_cons_zero]; done) | (simp only [List.getElem?_toArray, List.getElem?_cons_succ, List.getElem?_cons_zero]; rfl)) (by kernel_rfl) (by kernel_rfl) (by kernel_rfl) (by exact fun _ _ _ h => h) (yg_val (by rfl) ?_) ?_
  rotate_left
  · intro w' hw'; first | (go_simp; done) | (go_simp; with_reducible rfl)
  simp only [Act.put, List.setIfInBounds_toArray, List.set_cons_zero, List.set_cons_succ]
  refine hg_done (by kernel_rfl) fun w3 hw3 => ?_
  have hB3 : Below w.heap.size w w3 := hB2.trans (hw3.out.mono hB2.size)
  go_wp2_with fail
  go_ret
  rw [HR.out]
  exact ⟨rfl, hB3⟩
theorem warn_in {n p f u x y r : Int} {s : ByteArray} (h : warnB n p f u x y r s = true) : (1 ≤ p ∧ p ≤ 3) ∧ (s.size : Int) ≤ 60 ∧ pointB x y = true ∧ (1 ≤ n ∧ n ≤ 9999) ∧ (0 ≤ f ∧ f ≤ 143999999) ∧ (0 ≤ u ∧ u ≤ 143999999) ∧ (0 ≤ r ∧ r ≤ 20000) := by
  simp only [warnB, warnH, Bool.and_eq_true] at h
  obtain ⟨⟨⟨⟨⟨⟨⟨⟨h1, h2⟩, h3⟩, h4⟩, h5⟩, h6⟩, h7⟩, h8⟩, h9⟩ := h
  have e1 := inB_true h1
  have e2 := inB_true h2
  have e3 := inB_true h3
  have e4 := inB_true h4
  have e7 := inB_true h7
  have e8 := inB_true h8
  exact ⟨e2, e8.2, h6, e1, e3, e4, e7⟩
set_option maxHeartbeats 1000000 in
theorem c_spec_WarningText (n p f u x y r : Int) (s : ByteArray) (w : World) (hs : (s.size : Int) ≤ 1048576) (hn : I64 n) (hf : I64 f) (hu : I64 u) (hx : I64 x) (hy : I64 y) (hr : I64 r) :
    Calls Tryd.prog 10 #[.agg #[.int .i64 n, .int .i64 p, .int .i64 f, .int .i64 u, .int .i64 x, .int .i64 y, .int .i64 r, .string s]] w fun e w' => e = .returned (.string (wrnR n p f u x y r s)) ∧ Below w.heap.size w w' := by
  have hs' : s.size ≤ maxLen := by unfold maxLen; omega
  have cv : ∀ w', Below (w.alloc (.cells #[.int .i64 n, .int .i64 p, .int .i64 f, .int .i64 u, .int .i64 x, .int .i64 y, .int .i64 r, .string s] 30)).heap.size (w.alloc (.cells #[.int .i64 n, .int .i64 p, .int .i64 f, .int .i64 u, .int .i64 x, .int .i64 y, .int .i64 r, .string s] 30)) w' → Bk w' w.heap.size 30 [.int .i64 n, .int .i64 p, .int .i64 f, .int .i64 u, .int .i64 x, .int .i64 y, .int .i64 r, .string s] := fun w' h => (Bk.new _ _ _).below h
  have hbk := cv _ (Below.refl _ _)
  have h0 := hbk.cell 0 rfl
  have h1 := hbk.cell 1 rfl
  have h2 := hbk.cell 2 rfl
  have h3 := hbk.cell 3 rfl
  have h4 := hbk.cell 4 rfl
  have h5 := hbk.cell 5 rfl
  have h6 := hbk.cell 6 rfl
  have h7 := hbk.cell 7 rfl
  have HCV := hid cv
  clear cv hbk
  cases hq : warnB n p f u x y r s
  · have HR := hid (show wrnR n p f u x y r s = ⟨#[]⟩ by rw [wrnR, hq]; rfl)
    go_enter Tryd.func10, Tryd.ntmps10
    go_wp2_with (go_at_call 36; refine (c_l22One _ 0 n p f u x y r s _ (by simp) hs' h0 h1 h2 h3 h4 h5 h6 h7).mono ?_; rintro e w1 ⟨rfl, hb1⟩; have hz1 := hb1.size; (try simp at hz1))
    go_ret
    rw [HR.out]
    exact ⟨rfl, by (repeat' (first | (with_reducible exact Below.refl _ _) | (with_reducible refine Below.alloc ?_ ?_ _) | (with_reducible refine Below.drew ?_) | (with_reducible refine below_drewN ?_ _) | (with_reducible refine Below.setCell ?_ ?_ _) | (with_reducible refine below_via ‹_› ?_ ?_) | (with_reducible refine below_grow ?_ ?_ _ _) | omega | (simp; done) | (simp; omega)))⟩
  · obtain ⟨⟨p1, p3⟩, -⟩ := warn_in hq
    have HR := hid (show wrnR n p f u x y r s = wrnS n p f u x y r s by rw [wrnR, hq]; rfl)
    go_enter Tryd.func10, Tryd.ntmps10
    go_wp2_with (first | (go_at_call 36; refine (c_l22One _ 0 n p f u x y r s _ (by simp) hs' h0 h1 h2 h3 h4 h5 h6 h7).mono ?_; rintro e w1 ⟨rfl, hb1⟩; have hz1 := hb1.size; (try simp at hz1); have hbk := HCV.out w1 hb1) | (go_at_call 37; refine (c_l22Text _ 0 n p f u x y r s _ hbk.lt hs hn hf hu hx hy hr p1 p3 (hbk.cell 0 rfl) (hbk.cell 1 rfl) (hbk.cell 2 rfl) (hbk.cell 3 rfl) (hbk.cell 4 rfl) (hbk.cell 5 rfl) (hbk.cell 6 rfl) (hbk.cell 7 rfl)).mono ?_; rintro e w2 ⟨rfl, hb2⟩; have hz2 := hb2.size))
    go_ret
    rw [HR.out]
    exact ⟨rfl, by (repeat' (first | (with_reducible exact Below.refl _ _) | (with_reducible refine Below.alloc ?_ ?_ _) | (with_reducible refine Below.drew ?_) | (with_reducible refine below_drewN ?_ _) | (with_reducible refine Below.setCell ?_ ?_ _) | (with_reducible refine below_via ‹_› ?_ ?_) | (with_reducible refine below_grow ?_ ?_ _ _) | omega | (simp; done) | (simp; omega)))⟩
set_option maxHeartbeats 8000000 in
theorem c_impl_WarningText (n p f u x y r : Int) (s : ByteArray) (w : World) (hs : (s.size : Int) ≤ 1048576) (hn : I64 n) (hf : I64 f) (hu : I64 u) (hx : I64 x) (hy : I64 y) (hr : I64 r) (hp : Pow w) :
    Calls Tryd.prog 12 #[.agg #[.int .i64 n, .int .i64 p, .int .i64 f, .int .i64 u, .int .i64 x, .int .i64 y, .int .i64 r, .string s]] w fun e w' => e = .returned (.string (wrnR n p f u x y r s)) ∧ Below w.heap.size w w' := by
  have hs' : s.size ≤ maxLen := by unfold maxLen; omega
  have cv := fun w' => c_ValidWarning n p f u x y r s w' hs'
  cases hq : warnB n p f u x y r s
  · have HR := hid (show wrnR n p f u x y r s = ⟨#[]⟩ by rw [wrnR, hq]; rfl)
    rw [hq] at cv
    go_enter Tryd.func12, Tryd.ntmps12
    go_wp2_with (go_at_call 39; refine (cv _).mono ?_; rintro e w1 ⟨rfl, hb1⟩; have hz1 := hb1.size; (try simp at hz1))
    go_ret
    rw [HR.out]
    exact ⟨rfl, by (repeat' (first | (with_reducible exact Below.refl _ _) | (with_reducible refine Below.alloc ?_ ?_ _) | (with_reducible refine Below.drew ?_) | (with_reducible refine below_drewN ?_ _) | (with_reducible refine Below.setCell ?_ ?_ _) | (with_reducible refine below_via ‹_› ?_ ?_) | (with_reducible refine below_grow ?_ ?_ _ _) | omega | (simp; done) | (simp; omega)))⟩
  · obtain ⟨⟨p1, p3⟩, h60, hpt0, -⟩ := warn_in hq
    rw [hq] at cv
    obtain ⟨pt, hpt⟩ : ∃ pt, pt = bs (pointL x y) := ⟨_, rfl⟩
    have hpz := pointL_size hx hy
    rw [← hpt] at hpz
    have cp : ∀ w', Pow w' → Calls Tryd.prog 43 #[.agg #[.int .i64 x, .int .i64 y]] w' fun e w'' => e = .returned (.string pt) ∧ Below w'.heap.size w' w'' := fun w' h => by rw [hpt, ← pointR_ok hpt0]; exact c_PointText x y w' hx hy h
    have zn := decS_size hn
    have zf := decS_size hf
    have zu := decS_size hu
    have zr := decS_size hr
    have zp := nameP_size p
    have hln : (jn 32 ([decS n, nameP p, decS f, decS u, pt, decS r, s].map (·.data.toList))).length ≤ 140737488355328 := by
      simp only [List.map_cons, List.map_nil, jn_cons, List.length_append, List.length_cons, data_lenW]
      simp [jn]
      omega
    have HR := hid (show wrnR n p f u x y r s = bs (jn 32 ([decS n, nameP p, decS f, decS u, pt, decS r, s].map (·.data.toList))) by
      rw [wrnR, hq, hpt]
      simp only [List.map_cons, List.map_nil, decS_list, bs_list]; rfl)
    have HPT := hid hpt
    clear hpt hpt0 zn zf zu zr zp
    go_enter Tryd.func12, Tryd.ntmps12
    go_wp2_with (go_at_call 39; refine (cv _).mono ?_; rintro e w1 ⟨rfl, hb1⟩; have hz1 := hb1.size; (try simp at hz1))
    have hbk : Bk w1 w.heap.size 30 [.int .i64 n, .int .i64 p, .int .i64 f, .int .i64 u, .int .i64 x, .int .i64 y, .int .i64 r, .string s] := (Bk.new _ _ _).below hb1
    have hB1 : Below w.heap.size w w1 := by (repeat' (first | (with_reducible exact Below.refl _ _) | (with_reducible refine Below.alloc ?_ ?_ _) | (with_reducible refine Below.drew ?_) | (with_reducible refine below_drewN ?_ _) | (with_reducible refine Below.setCell ?_ ?_ _) | (with_reducible refine below_via ‹_› ?_ ?_) | (with_reducible refine below_grow ?_ ?_ _ _) | omega | (simp; done) | (simp; omega)))
    have k0 : ∀ w', Gr w1 w' → w'.cell? ⟨w.heap.size, 0, none⟩ = some (.int .i64 n) := fun w' h => (hbk.below h.out).cell 0 rfl
    have k1 : ∀ w', Gr w1 w' → w'.cell? ⟨w.heap.size, 1, none⟩ = some (.int .i64 p) := fun w' h => (hbk.below h.out).cell 1 rfl
    have k2 : ∀ w', Gr w1 w' → w'.cell? ⟨w.heap.size, 2, none⟩ = some (.int .i64 f) := fun w' h => (hbk.below h.out).cell 2 rfl
    have k3 : ∀ w', Gr w1 w' → w'.cell? ⟨w.heap.size, 3, none⟩ = some (.int .i64 u) := fun w' h => (hbk.below h.out).cell 3 rfl
    have k4 : ∀ w', Gr w1 w' → w'.cell? ⟨w.heap.size, 4, none⟩ = some (.int .i64 x) := fun w' h => (hbk.below h.out).cell 4 rfl
    have k5 : ∀ w', Gr w1 w' → w'.cell? ⟨w.heap.size, 5, none⟩ = some (.int .i64 y) := fun w' h => (hbk.below h.out).cell 5 rfl
    have k6 : ∀ w', Gr w1 w' → w'.cell? ⟨w.heap.size, 6, none⟩ = some (.int .i64 r) := fun w' h => (hbk.below h.out).cell 6 rfl
    have k7 : ∀ w', Gr w1 w' → w'.cell? ⟨w.heap.size, 7, none⟩ = some (.string s) := fun w' h => (hbk.below h.out).cell 7 rfl
    have hp := hp.at hB1
    clear hb1 hz1 hbk cv
    refine hg_region 23 (by rfl) (by kernel_rfl) ?_
    refine hg_take (i := 0) (v := ?_) (by first | (simp only [List.getElem?_toArray, List.getElem?_cons_succ, List.getElem?_cons_zero]; done) | (simp only [List.getElem?_toArray, List.getElem?_cons_succ, List.getElem?_cons_zero]; rfl)) (by kernel_rfl) (by kernel_rfl) (by kernel_rfl) (by exact fun _ _ _ h => h) (yg_val (by rfl) ?_) ?_
    rotate_left
    · intro w' hw'; first | (go_simp; done) | (go_simp; with_reducible rfl)
    simp only [Act.put, List.setIfInBounds_toArray, List.set_cons_zero, List.set_cons_succ]
    refine hg_take (i := 1) (v := ?_) (by first | (simp only [List.getElem?_toArray, List.getElem?_cons_succ, List.getElem?_cons_zero]; done) | (simp only [List.getElem?_toArray, List.getElem?_cons_succ, List.getElem?_cons_zero]; rfl)) (by kernel_rfl) (by kernel_rfl) (by kernel_rfl) (by exact fun _ _ _ h => h) (yg_val (by rfl) ?_) ?_
    rotate_left
    · intro w' hw'; first | (go_simp; done) | (go_simp; with_reducible rfl)
    simp only [Act.put, List.setIfInBounds_toArray, List.set_cons_zero, List.set_cons_succ]
    refine hg_take (i := 3) (v := ?_) (by first | (simp only [List.getElem?_toArray, List.getElem?_cons_succ, List.getElem?_cons_zero]; done) | (simp only [List.getElem?_toArray, List.getElem?_cons_succ, List.getElem?_cons_zero]; rfl)) (by kernel_rfl) (by kernel_rfl) (by kernel_rfl) (by exact fun _ _ _ h => h) (yg_val (by rfl) ?_) ?_
    rotate_left
    · intro w' hw'; first | (go_simp; done) | (go_simp; with_reducible rfl)
    simp only [Act.put, List.setIfInBounds_toArray, List.set_cons_zero, List.set_cons_succ]
    refine hg_take (i := 4) (v := ?_) (by first | (simp only [List.getElem?_toArray, List.getElem?_cons_succ, List.getElem?_cons_zero]; done) | (simp only [List.getElem?_toArray, List.getElem?_cons_succ, List.getElem?_cons_zero]; rfl)) (by kernel_rfl) (by kernel_rfl) (by kernel_rfl) (by exact fun _ _ _ h => h) (yg_val (by rfl) ?_) ?_
    rotate_left
    · intro w' hw'; first | (go_simp; done) | (go_simp; with_reducible rfl)
    simp only [Act.put, List.setIfInBounds_toArray, List.set_cons_zero, List.set_cons_succ]
    refine hg_take (i := 6) (v := ?_) (by first | (simp only [List.getElem?_toArray, List.getElem?_cons_succ, List.getElem?_cons_zero]; done) | (simp only [List.getElem?_toArray, List.getElem?_cons_succ, List.getElem?_cons_zero]; rfl)) (by kernel_rfl) (by kernel_rfl) (by kernel_rfl) (by exact fun _ _ _ h => h) (yg_val (by rfl) ?_) ?_
    rotate_left
    · intro w' hw'; first | (go_simp; done) | (go_simp; with_reducible rfl)
    simp only [Act.put, List.setIfInBounds_toArray, List.set_cons_zero, List.set_cons_succ]
    refine hg_take (i := 7) (v := ?_) (by first | (simp only [List.getElem?_toArray, List.getElem?_cons_succ, List.getElem?_cons_zero]; done) | (simp only [List.getElem?_toArray, List.getElem?_cons_succ, List.getElem?_cons_zero]; rfl)) (by kernel_rfl) (by kernel_rfl) (by kernel_rfl) (by exact fun _ _ _ h => h) (yg_val (by rfl) ?_) ?_
    rotate_left
    · intro w' hw'; first | (go_simp; done) | (go_simp; with_reducible rfl)
    simp only [Act.put, List.setIfInBounds_toArray, List.set_cons_zero, List.set_cons_succ]
    refine hg_take (i := 9) (v := ?_) (by first | (simp only [List.getElem?_toArray, List.getElem?_cons_succ, List.getElem?_cons_zero]; done) | (simp only [List.getElem?_toArray, List.getElem?_cons_succ, List.getElem?_cons_zero]; rfl)) (by kernel_rfl) (by kernel_rfl) (by kernel_rfl) (by exact fun _ _ _ h => h) (yg_val (by rfl) ?_) ?_
    rotate_left
    · intro w' hw'; first | (go_simp; done) | (go_simp; with_reducible rfl)
    simp only [Act.put, List.setIfInBounds_toArray, List.set_cons_zero, List.set_cons_succ]
    refine hg_take (i := 10) (v := ?_) (by first | (simp only [List.getElem?_toArray, List.getElem?_cons_succ, List.getElem?_cons_zero]; done) | (simp only [List.getElem?_toArray, List.getElem?_cons_succ, List.getElem?_cons_zero]; rfl)) (by kernel_rfl) (by kernel_rfl) (by kernel_rfl) (by exact fun _ _ _ h => h) (yg_val (by rfl) ?_) ?_
    rotate_left
    · intro w' hw'; first | (go_simp; done) | (go_simp; with_reducible rfl)
    simp only [Act.put, List.setIfInBounds_toArray, List.set_cons_zero, List.set_cons_succ]
    refine hg_take (i := 12) (v := ?_) (by first | (simp only [List.getElem?_toArray, List.getElem?_cons_succ, List.getElem?_cons_zero]; done) | (simp only [List.getElem?_toArray, List.getElem?_cons_succ, List.getElem?_cons_zero]; rfl)) (by kernel_rfl) (by kernel_rfl) (by kernel_rfl) (by exact fun _ _ _ h => h) (yg_val (by rfl) ?_) ?_
    rotate_left
    · intro w' hw'; first | (go_simp; done) | (go_simp; with_reducible rfl)
    simp only [Act.put, List.setIfInBounds_toArray, List.set_cons_zero, List.set_cons_succ]
    refine hg_take (i := 13) (v := ?_) (by first | (simp only [List.getElem?_toArray, List.getElem?_cons_succ, List.getElem?_cons_zero]; done) | (simp only [List.getElem?_toArray, List.getElem?_cons_succ, List.getElem?_cons_zero]; rfl)) (by kernel_rfl) (by kernel_rfl) (by kernel_rfl) (by exact fun _ _ _ h => h) (yg_val (by rfl) ?_) ?_
    rotate_left
    · intro w' hw'; first | (go_simp; done) | (go_simp; with_reducible rfl)
    simp only [Act.put, List.setIfInBounds_toArray, List.set_cons_zero, List.set_cons_succ]
    refine hg_take (i := 15) (v := ?_) (by first | (simp only [List.getElem?_toArray, List.getElem?_cons_succ, List.getElem?_cons_zero]; done) | (simp only [List.getElem?_toArray, List.getElem?_cons_succ, List.getElem?_cons_zero]; rfl)) (by kernel_rfl) (by kernel_rfl) (by kernel_rfl) (by exact fun _ _ _ h => h) (yg_val (by rfl) ?_) ?_
    rotate_left
    · intro w' hw'; first | (go_simp; done) | (go_simp; with_reducible rfl)
    simp only [Act.put, List.setIfInBounds_toArray, List.set_cons_zero, List.set_cons_succ]
    refine hg_take (i := 16) (v := ?_) (by first | (simp only [List.getElem?_toArray, List.getElem?_cons_succ, List.getElem?_cons_zero]; done) | (simp only [List.getElem?_toArray, List.getElem?_cons_succ, List.getElem?_cons_zero]; rfl)) (by kernel_rfl) (by kernel_rfl) (by kernel_rfl) (by exact fun _ _ _ h => h) (yg_val (by rfl) ?_) ?_
    rotate_left
    · intro w' hw'; first | (go_simp; done) | (go_simp; with_reducible rfl)
    simp only [Act.put, List.setIfInBounds_toArray, List.set_cons_zero, List.set_cons_succ]
    refine hg_take (i := 18) (v := ?_) (by first | (simp only [List.getElem?_toArray, List.getElem?_cons_succ, List.getElem?_cons_zero]; done) | (simp only [List.getElem?_toArray, List.getElem?_cons_succ, List.getElem?_cons_zero]; rfl)) (by kernel_rfl) (by kernel_rfl) (by kernel_rfl) (by exact fun _ _ _ h => h) (yg_val (by rfl) ?_) ?_
    rotate_left
    · intro w' hw'; first | (go_simp; done) | (go_simp; with_reducible rfl)
    simp only [Act.put, List.setIfInBounds_toArray, List.set_cons_zero, List.set_cons_succ]
    refine hg_take (i := 19) (v := ?_) (by first | (simp only [List.getElem?_toArray, List.getElem?_cons_succ, List.getElem?_cons_zero]; done) | (simp only [List.getElem?_toArray, List.getElem?_cons_succ, List.getElem?_cons_zero]; rfl)) (by kernel_rfl) (by kernel_rfl) (by kernel_rfl) (by exact fun _ _ _ h => h) (yg_val (by rfl) ?_) ?_
    rotate_left
    · intro w' hw'; first | (go_simp; done) | (go_simp; with_reducible rfl)
    simp only [Act.put, List.setIfInBounds_toArray, List.set_cons_zero, List.set_cons_succ]
    refine hg_take (i := 2) (v := .string (decS n)) (by first | (simp only [List.getElem?_toArray, List.getElem?_cons_succ, List.getElem?_cons_zero]; done) | (simp only [List.getElem?_toArray, List.getElem?_cons_succ, List.getElem?_cons_zero]; rfl)) (by kernel_rfl) (by kernel_rfl) (by kernel_rfl) (by exact fun _ _ _ h => h) (yg_call (f := 41) (args := #[.int .i64 n]) (by rfl) ?_ ?_) ?_
    · intro w'; first | (go_simp; done) | (go_simp; with_reducible rfl)
    · intro w' hw'; exact c_Decimal n w' hn (hp.at hw'.out)
    simp only [Act.put, List.setIfInBounds_toArray, List.set_cons_zero, List.set_cons_succ]
    refine hg_take (i := 5) (v := .string (nameP p)) (by first | (simp only [List.getElem?_toArray, List.getElem?_cons_succ, List.getElem?_cons_zero]; done) | (simp only [List.getElem?_toArray, List.getElem?_cons_succ, List.getElem?_cons_zero]; rfl)) (by kernel_rfl) (by kernel_rfl) (by kernel_rfl) (by exact fun _ _ _ h => h) (yg_call (f := 42) (args := #[.int .i64 p]) (by rfl) ?_ ?_) ?_
    · intro w'; first | (go_simp; done) | (go_simp; with_reducible rfl)
    · intro w' hw'; exact c_PriorityName p w'
    simp only [Act.put, List.setIfInBounds_toArray, List.set_cons_zero, List.set_cons_succ]
    refine hg_take (i := 8) (v := .string (decS f)) (by first | (simp only [List.getElem?_toArray, List.getElem?_cons_succ, List.getElem?_cons_zero]; done) | (simp only [List.getElem?_toArray, List.getElem?_cons_succ, List.getElem?_cons_zero]; rfl)) (by kernel_rfl) (by kernel_rfl) (by kernel_rfl) (by exact fun _ _ _ h => h) (yg_call (f := 41) (args := #[.int .i64 f]) (by rfl) ?_ ?_) ?_
    · intro w'; first | (go_simp; done) | (go_simp; with_reducible rfl)
    · intro w' hw'; exact c_Decimal f w' hf (hp.at hw'.out)
    simp only [Act.put, List.setIfInBounds_toArray, List.set_cons_zero, List.set_cons_succ]
    refine hg_take (i := 11) (v := .string (decS u)) (by first | (simp only [List.getElem?_toArray, List.getElem?_cons_succ, List.getElem?_cons_zero]; done) | (simp only [List.getElem?_toArray, List.getElem?_cons_succ, List.getElem?_cons_zero]; rfl)) (by kernel_rfl) (by kernel_rfl) (by kernel_rfl) (by exact fun _ _ _ h => h) (yg_call (f := 41) (args := #[.int .i64 u]) (by rfl) ?_ ?_) ?_
    · intro w'; first | (go_simp; done) | (go_simp; with_reducible rfl)
    · intro w' hw'; exact c_Decimal u w' hu (hp.at hw'.out)
    simp only [Act.put, List.setIfInBounds_toArray, List.set_cons_zero, List.set_cons_succ]
    refine hg_take (i := 14) (v := .string pt) (by first | (simp only [List.getElem?_toArray, List.getElem?_cons_succ, List.getElem?_cons_zero]; done) | (simp only [List.getElem?_toArray, List.getElem?_cons_succ, List.getElem?_cons_zero]; rfl)) (by kernel_rfl) (by kernel_rfl) (by kernel_rfl) (by exact fun _ _ _ h => h) (yg_call (f := 43) (args := #[.agg #[.int .i64 x, .int .i64 y]]) (by rfl) ?_ ?_) ?_
    · intro w'; first | (go_simp; done) | (go_simp; with_reducible rfl)
    · intro w' hw'; exact cp w' (hp.at hw'.out)
    simp only [Act.put, List.setIfInBounds_toArray, List.set_cons_zero, List.set_cons_succ]
    refine hg_take (i := 17) (v := .string (decS r)) (by first | (simp only [List.getElem?_toArray, List.getElem?_cons_succ, List.getElem?_cons_zero]; done) | (simp only [List.getElem?_toArray, List.getElem?_cons_succ, List.getElem?_cons_zero]; rfl)) (by kernel_rfl) (by kernel_rfl) (by kernel_rfl) (by exact fun _ _ _ h => h) (yg_call (f := 41) (args := #[.int .i64 r]) (by rfl) ?_ ?_) ?_
    · intro w'; first | (go_simp; done) | (go_simp; with_reducible rfl)
    · intro w' hw'; exact c_Decimal r w' hr (hp.at hw'.out)
    simp only [Act.put, List.setIfInBounds_toArray, List.set_cons_zero, List.set_cons_succ]
    refine hg_one (i := 20) (by first | (simp only [List.getElem?_toArray, List.getElem?_cons_succ, List.getElem?_cons_zero]; done) | (simp only [List.getElem?_toArray, List.getElem?_cons_succ, List.getElem?_cons_zero]; rfl)) (by kernel_rfl) (by rfl) fun w2 hw2 K hK => ?_
    go_simp
    have hSF := slo_fresh (enc := encT) (fun _ => rfl) w2 [decS n, nameP p, decS f, decS u, pt, decS r, s] 9 (cs := #[.string (decS n), .string (nameP p), .string (decS f), .string (decS u), .string pt, .string (decS r), .string s]) rfl (m := 7) rfl (by simp)
    have hG3 : Gr w1 (w2.alloc (.cells #[.string (decS n), .string (nameP p), .string (decS f), .string (decS u), .string pt, .string (decS r), .string s] 9)) := hw2.trans (gr_of ((Below.refl _ _).alloc (Nat.le_refl _) _))
    refine hK _ _ (gr_of ((Below.refl _ _).alloc (Nat.le_refl _) _)) ?_
    obtain ⟨W3, hW3⟩ : ∃ z, z = w2.alloc (.cells #[.string (decS n), .string (nameP p), .string (decS f), .string (decS u), .string pt, .string (decS r), .string s] 9) := ⟨_, rfl⟩
    obtain ⟨g, hg⟩ : ∃ z, z = w2.heap.size := ⟨_, rfl⟩
    rw [← hW3, ← hg] at hSF
    rw [← hW3] at hG3
    rw [← hW3]
    (try rw [← hg])
    have HS := hid hSF.1
    clear hW3 hSF hg hK hw2
    refine hg_one (i := 21) (by first | (simp only [List.getElem?_toArray, List.getElem?_cons_succ, List.getElem?_cons_zero]; done) | (simp only [List.getElem?_toArray, List.getElem?_cons_succ, List.getElem?_cons_zero]; rfl)) (by kernel_rfl) (by rfl) fun w4 hw4 K hK => ?_
    go_simp
    refine (c_Join 32 _ _ _ (HS.out.at hw4.out) (by simp) hln (by simp)).mono ?_
    rintro e w5 ⟨rfl, hb5⟩
    refine hK _ _ (gr_of hb5) ?_
    have hB5 : Below w.heap.size w w5 := hB1.trans (((hG3.trans hw4).trans (gr_of hb5)).out.mono hB1.size)
    rw [← HR.out]
    clear HS hG3 hw4 hb5 k0 k1 k2 k3 k4 k5 k6 k7
    refine hg_take (i := 22) (v := ?_) (by first | (simp only [List.getElem?_toArray, List.getElem?_cons_succ, List.getElem?_cons_zero]; done) | (simp only [List.getElem?_toArray, List.getElem?_cons_succ, List.getElem?_cons_zero]; rfl)) (by kernel_rfl) (by kernel_rfl) (by kernel_rfl) (by exact fun _ _ _ h => h) (yg_val (by rfl) ?_) ?_
    rotate_left
    · intro w' hw'; first | (go_simp; done) | (go_simp; with_reducible rfl)
    simp only [Act.put, List.setIfInBounds_toArray, List.set_cons_zero, List.set_cons_succ]
    refine hg_done (by kernel_rfl) fun w6 hw6 => ?_
    have hB6 : Below w.heap.size w w6 := hB5.trans (hw6.out.mono hB5.size)
    go_wp2_with fail
    go_ret
    exact ⟨rfl, hB6⟩
end Go.Proofs.YtocpgnpdnoidnaaDoor
