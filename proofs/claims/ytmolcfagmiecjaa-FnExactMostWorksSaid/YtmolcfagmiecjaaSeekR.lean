/- The reference's searches for voyages: the run, the order found; the first voyage, the number of voyages, the most works. -/
import Derived.Test.YtmolcfagmiecjaaSeekV
namespace Go.Proofs.Ytmolcfagmiecjaa
open Go.RowKit Go.Sort
set_option maxRecDepth 100000

def spA0 : SpA := ⟨false, 0, []⟩
def spF (mode a b x y : Int) (ws : List WorkD) (t q : Int) : Res SpA := seekF (takeF mode ws.length) a b x y ws t q spA0
def RunR (B bs : Nat) (x y t q mode : Int) (lv : Value) (w w' : World) (code : Int) (A : SpA) (e : Ending) : Prop :=
  Below w.heap.size w w' ∧ ((code ≠ 0 ∧ e = .returned (.tuple #[.pointer none, .int .i64 code])) ∨
    (code = 0 ∧ ∃ X nodes vO vC vB least, e = .returned (.tuple #[.pointer (some ⟨X, 0, none⟩), .int .i64 0]) ∧ XS B X bs x y t q mode lv w' [] [] 0 A nodes vO vC vB least))
theorem rt_bad {s : ByteArray} {a b c x y : Int} {ws : List WorkD} {t q : Int} (h : (shipB s a b c && (pointB x y && worksB ws)) = false ∨ inB q 1 20000 = false ∨ inB t 0 4320 = false) (z : Int) :
    rtC s a b c x y ws t q z = if shipB s a b c && (pointB x y && worksB ws) then 2 else 1 := by
  have ho : ordB ws.length [] = true := rfl
  unfold rtC askN askC
  rw [ho]
  revert h
  generalize (shipB s a b c && (pointB x y && worksB ws)) = u
  generalize inB q 1 20000 = u1
  generalize inB t 0 4320 = u2
  cases u <;> cases u1 <;> cases u2 <;> simp
set_option maxHeartbeats 4000000 in
theorem c_l27Run (bs : Nat) (s : ByteArray) (a b c x y t q mode : Int) (adl : Option Addr) (cpl : Nat) (ws : List WorkD) (w : World) (hbs : bs < w.heap.size) (s0 : w.cell? ⟨bs, 0, none⟩ = some (.string s)) (s1 : w.cell? ⟨bs, 1, none⟩ = some (.int .i64 a)) (s2 : w.cell? ⟨bs, 2, none⟩ = some (.int .i64 b)) (s3 : w.cell? ⟨bs, 3, none⟩ = some (.int .i64 c))
    (hs : s.size ≤ maxLen) (h : SlA w 0 7 encWork (.slice adl ws.length cpl) ws) (hok : ∀ x ∈ ws, okWork x) (hm : mode = 1 ∨ mode = 2 ∨ mode = 4) :
    Calls Try.prog 92 #[.pointer (some ⟨bs, 0, none⟩), .agg #[.int .i64 x, .int .i64 y], .slice adl ws.length cpl, .int .i64 t, .int .i64 q, .int .i64 mode] w fun e w' =>
      RunR w.heap.size bs x y t q mode (.slice adl ws.length cpl) w w' (rtC s a b c x y ws t q (spF mode a b x y ws t q).code) (spF mode a b x y ws t q).ans e := by
  have s1' : w.cell? ⟨bs, 0 + 1, none⟩ = some (.int .i64 a) := s1
  have s2' : w.cell? ⟨bs, 0 + 2, none⟩ = some (.int .i64 b) := s2
  have s3' : w.cell? ⟨bs, 0 + 3, none⟩ = some (.int .i64 c) := s3
  cases hq1 : shipB s a b c
  · have HC := hid (fun z : Int => rt_bad (s := s) (a := a) (b := b) (c := c) (x := x) (y := y) (ws := ws) (t := t) (q := q) (by simp [*]) z)
    go_enter Try.func92, Try.ntmps92
    go_wp2_with (first | (go_at_call 59; refine (c_l25Ship _ _ s a b c _ hs (by first | assumption | (simp [*, go_sem]; done)) (by first | assumption | (simp [*, go_sem]; done)) (by first | assumption | (simp [*, go_sem]; done)) (by first | assumption | (simp [*, go_sem]; done))).mono ?_; rintro e w' ⟨rfl, rfl⟩) | (go_at_call 60; refine (c_l02Ok _ _ _).mono ?_; rintro e w1 ⟨rfl, hb⟩; obtain ⟨hc, hf⟩ := bcell hb; have hz := hb.size; (try simp at hz); (try have hz0 : ∀ b, b < w.heap.size → b < w1.heap.size := fun b h => by omega); (try have hz1 : w.heap.size < w1.heap.size := by omega); (try have hz2 : w.heap.size + 1 < w1.heap.size := by omega); (try have hz3 : w.heap.size + 2 < w1.heap.size := by omega)) | (go_at_call 61; refine (c_l25List _ _ _ (by first | (with_reducible assumption) | (with_reducible apply SlO.at; (with_reducible assumption); (repeat' (first | (with_reducible exact Below.refl _ _) | (with_reducible refine Below.alloc ?_ ?_ _) | (with_reducible refine Below.drew ?_) | (with_reducible refine below_drewN ?_ _) | (with_reducible refine Below.setCell ?_ ?_ _) | (with_reducible refine below_via ‹_› ?_ ?_) | (with_reducible refine below_grow ?_ ?_ _ _) | omega | (simp; done) | (simp; omega))); done) | (with_reducible apply SlA.at; (with_reducible assumption); (repeat' (first | (with_reducible exact Below.refl _ _) | (with_reducible refine Below.alloc ?_ ?_ _) | (with_reducible refine Below.drew ?_) | (with_reducible refine below_drewN ?_ _) | (with_reducible refine Below.setCell ?_ ?_ _) | (with_reducible refine below_via ‹_› ?_ ?_) | (with_reducible refine below_grow ?_ ?_ _ _) | omega | (simp; done) | (simp; omega))); done)) (by assumption)).mono ?_; rintro e w1 ⟨rfl, hb⟩; obtain ⟨hc, hf⟩ := bcell hb; have hz := hb.size; (try simp at hz); (try have hz0 : ∀ b, b < w.heap.size → b < w1.heap.size := fun b h => by omega); (try have hz1 : w.heap.size < w1.heap.size := by omega); (try have hz2 : w.heap.size + 1 < w1.heap.size := by omega); (try have hz3 : w.heap.size + 2 < w1.heap.size := by omega)) | (go_at_call 62; refine (c_l00In _ _ _ _).mono ?_; rintro e w' ⟨rfl, rfl⟩))
    go_ret2
    rw [HC.out]
    simp only [*, Bool.true_and, Bool.false_and, Bool.and_true, Bool.and_false, if_true, if_false, Bool.false_eq_true]
    exact ⟨by (repeat' (first | (with_reducible exact Below.refl _ _) | (with_reducible refine Below.alloc ?_ ?_ _) | (with_reducible refine Below.drew ?_) | (with_reducible refine below_drewN ?_ _) | (with_reducible refine Below.setCell ?_ ?_ _) | (with_reducible refine below_via ‹_› ?_ ?_) | (with_reducible refine below_grow ?_ ?_ _ _) | omega | (simp; done) | (simp; omega))), .inl ⟨by decide, rfl⟩⟩
  cases hq2 : pointB x y
  · have HC := hid (fun z : Int => rt_bad (s := s) (a := a) (b := b) (c := c) (x := x) (y := y) (ws := ws) (t := t) (q := q) (by simp [*]) z)
    go_enter Try.func92, Try.ntmps92
    go_wp2_with (first | (go_at_call 59; refine (c_l25Ship _ _ s a b c _ hs (by first | assumption | (simp [*, go_sem]; done)) (by first | assumption | (simp [*, go_sem]; done)) (by first | assumption | (simp [*, go_sem]; done)) (by first | assumption | (simp [*, go_sem]; done))).mono ?_; rintro e w' ⟨rfl, rfl⟩) | (go_at_call 60; refine (c_l02Ok _ _ _).mono ?_; rintro e w1 ⟨rfl, hb⟩; obtain ⟨hc, hf⟩ := bcell hb; have hz := hb.size; (try simp at hz); (try have hz0 : ∀ b, b < w.heap.size → b < w1.heap.size := fun b h => by omega); (try have hz1 : w.heap.size < w1.heap.size := by omega); (try have hz2 : w.heap.size + 1 < w1.heap.size := by omega); (try have hz3 : w.heap.size + 2 < w1.heap.size := by omega)) | (go_at_call 61; refine (c_l25List _ _ _ (by first | (with_reducible assumption) | (with_reducible apply SlO.at; (with_reducible assumption); (repeat' (first | (with_reducible exact Below.refl _ _) | (with_reducible refine Below.alloc ?_ ?_ _) | (with_reducible refine Below.drew ?_) | (with_reducible refine below_drewN ?_ _) | (with_reducible refine Below.setCell ?_ ?_ _) | (with_reducible refine below_via ‹_› ?_ ?_) | (with_reducible refine below_grow ?_ ?_ _ _) | omega | (simp; done) | (simp; omega))); done) | (with_reducible apply SlA.at; (with_reducible assumption); (repeat' (first | (with_reducible exact Below.refl _ _) | (with_reducible refine Below.alloc ?_ ?_ _) | (with_reducible refine Below.drew ?_) | (with_reducible refine below_drewN ?_ _) | (with_reducible refine Below.setCell ?_ ?_ _) | (with_reducible refine below_via ‹_› ?_ ?_) | (with_reducible refine below_grow ?_ ?_ _ _) | omega | (simp; done) | (simp; omega))); done)) (by assumption)).mono ?_; rintro e w1 ⟨rfl, hb⟩; obtain ⟨hc, hf⟩ := bcell hb; have hz := hb.size; (try simp at hz); (try have hz0 : ∀ b, b < w.heap.size → b < w1.heap.size := fun b h => by omega); (try have hz1 : w.heap.size < w1.heap.size := by omega); (try have hz2 : w.heap.size + 1 < w1.heap.size := by omega); (try have hz3 : w.heap.size + 2 < w1.heap.size := by omega)) | (go_at_call 62; refine (c_l00In _ _ _ _).mono ?_; rintro e w' ⟨rfl, rfl⟩))
    go_ret2
    rw [HC.out]
    simp only [*, Bool.true_and, Bool.false_and, Bool.and_true, Bool.and_false, if_true, if_false, Bool.false_eq_true]
    exact ⟨by (repeat' (first | (with_reducible exact Below.refl _ _) | (with_reducible refine Below.alloc ?_ ?_ _) | (with_reducible refine Below.drew ?_) | (with_reducible refine below_drewN ?_ _) | (with_reducible refine Below.setCell ?_ ?_ _) | (with_reducible refine below_via ‹_› ?_ ?_) | (with_reducible refine below_grow ?_ ?_ _ _) | omega | (simp; done) | (simp; omega))), .inl ⟨by decide, rfl⟩⟩
  cases hq3 : worksB ws
  · have HC := hid (fun z : Int => rt_bad (s := s) (a := a) (b := b) (c := c) (x := x) (y := y) (ws := ws) (t := t) (q := q) (by simp [*]) z)
    go_enter Try.func92, Try.ntmps92
    go_wp2_with (first | (go_at_call 59; refine (c_l25Ship _ _ s a b c _ hs (by first | assumption | (simp [*, go_sem]; done)) (by first | assumption | (simp [*, go_sem]; done)) (by first | assumption | (simp [*, go_sem]; done)) (by first | assumption | (simp [*, go_sem]; done))).mono ?_; rintro e w' ⟨rfl, rfl⟩) | (go_at_call 60; refine (c_l02Ok _ _ _).mono ?_; rintro e w1 ⟨rfl, hb⟩; obtain ⟨hc, hf⟩ := bcell hb; have hz := hb.size; (try simp at hz); (try have hz0 : ∀ b, b < w.heap.size → b < w1.heap.size := fun b h => by omega); (try have hz1 : w.heap.size < w1.heap.size := by omega); (try have hz2 : w.heap.size + 1 < w1.heap.size := by omega); (try have hz3 : w.heap.size + 2 < w1.heap.size := by omega)) | (go_at_call 61; refine (c_l25List _ _ _ (by first | (with_reducible assumption) | (with_reducible apply SlO.at; (with_reducible assumption); (repeat' (first | (with_reducible exact Below.refl _ _) | (with_reducible refine Below.alloc ?_ ?_ _) | (with_reducible refine Below.drew ?_) | (with_reducible refine below_drewN ?_ _) | (with_reducible refine Below.setCell ?_ ?_ _) | (with_reducible refine below_via ‹_› ?_ ?_) | (with_reducible refine below_grow ?_ ?_ _ _) | omega | (simp; done) | (simp; omega))); done) | (with_reducible apply SlA.at; (with_reducible assumption); (repeat' (first | (with_reducible exact Below.refl _ _) | (with_reducible refine Below.alloc ?_ ?_ _) | (with_reducible refine Below.drew ?_) | (with_reducible refine below_drewN ?_ _) | (with_reducible refine Below.setCell ?_ ?_ _) | (with_reducible refine below_via ‹_› ?_ ?_) | (with_reducible refine below_grow ?_ ?_ _ _) | omega | (simp; done) | (simp; omega))); done)) (by assumption)).mono ?_; rintro e w1 ⟨rfl, hb⟩; obtain ⟨hc, hf⟩ := bcell hb; have hz := hb.size; (try simp at hz); (try have hz0 : ∀ b, b < w.heap.size → b < w1.heap.size := fun b h => by omega); (try have hz1 : w.heap.size < w1.heap.size := by omega); (try have hz2 : w.heap.size + 1 < w1.heap.size := by omega); (try have hz3 : w.heap.size + 2 < w1.heap.size := by omega)) | (go_at_call 62; refine (c_l00In _ _ _ _).mono ?_; rintro e w' ⟨rfl, rfl⟩))
    go_ret2
    rw [HC.out]
    simp only [*, Bool.true_and, Bool.false_and, Bool.and_true, Bool.and_false, if_true, if_false, Bool.false_eq_true]
    exact ⟨by (repeat' (first | (with_reducible exact Below.refl _ _) | (with_reducible refine Below.alloc ?_ ?_ _) | (with_reducible refine Below.drew ?_) | (with_reducible refine below_drewN ?_ _) | (with_reducible refine Below.setCell ?_ ?_ _) | (with_reducible refine below_via ‹_› ?_ ?_) | (with_reducible refine below_grow ?_ ?_ _ _) | omega | (simp; done) | (simp; omega))), .inl ⟨by decide, rfl⟩⟩
  cases hq4 : inB q 1 20000
  · have HC := hid (fun z : Int => rt_bad (s := s) (a := a) (b := b) (c := c) (x := x) (y := y) (ws := ws) (t := t) (q := q) (by simp [*]) z)
    go_enter Try.func92, Try.ntmps92
    go_wp2_with (first | (go_at_call 59; refine (c_l25Ship _ _ s a b c _ hs (by first | assumption | (simp [*, go_sem]; done)) (by first | assumption | (simp [*, go_sem]; done)) (by first | assumption | (simp [*, go_sem]; done)) (by first | assumption | (simp [*, go_sem]; done))).mono ?_; rintro e w' ⟨rfl, rfl⟩) | (go_at_call 60; refine (c_l02Ok _ _ _).mono ?_; rintro e w1 ⟨rfl, hb⟩; obtain ⟨hc, hf⟩ := bcell hb; have hz := hb.size; (try simp at hz); (try have hz0 : ∀ b, b < w.heap.size → b < w1.heap.size := fun b h => by omega); (try have hz1 : w.heap.size < w1.heap.size := by omega); (try have hz2 : w.heap.size + 1 < w1.heap.size := by omega); (try have hz3 : w.heap.size + 2 < w1.heap.size := by omega)) | (go_at_call 61; refine (c_l25List _ _ _ (by first | (with_reducible assumption) | (with_reducible apply SlO.at; (with_reducible assumption); (repeat' (first | (with_reducible exact Below.refl _ _) | (with_reducible refine Below.alloc ?_ ?_ _) | (with_reducible refine Below.drew ?_) | (with_reducible refine below_drewN ?_ _) | (with_reducible refine Below.setCell ?_ ?_ _) | (with_reducible refine below_via ‹_› ?_ ?_) | (with_reducible refine below_grow ?_ ?_ _ _) | omega | (simp; done) | (simp; omega))); done) | (with_reducible apply SlA.at; (with_reducible assumption); (repeat' (first | (with_reducible exact Below.refl _ _) | (with_reducible refine Below.alloc ?_ ?_ _) | (with_reducible refine Below.drew ?_) | (with_reducible refine below_drewN ?_ _) | (with_reducible refine Below.setCell ?_ ?_ _) | (with_reducible refine below_via ‹_› ?_ ?_) | (with_reducible refine below_grow ?_ ?_ _ _) | omega | (simp; done) | (simp; omega))); done)) (by assumption)).mono ?_; rintro e w1 ⟨rfl, hb⟩; obtain ⟨hc, hf⟩ := bcell hb; have hz := hb.size; (try simp at hz); (try have hz0 : ∀ b, b < w.heap.size → b < w1.heap.size := fun b h => by omega); (try have hz1 : w.heap.size < w1.heap.size := by omega); (try have hz2 : w.heap.size + 1 < w1.heap.size := by omega); (try have hz3 : w.heap.size + 2 < w1.heap.size := by omega)) | (go_at_call 62; refine (c_l00In _ _ _ _).mono ?_; rintro e w' ⟨rfl, rfl⟩))
    go_ret2
    rw [HC.out]
    simp only [*, Bool.true_and, Bool.false_and, Bool.and_true, Bool.and_false, if_true, if_false, Bool.false_eq_true]
    exact ⟨by (repeat' (first | (with_reducible exact Below.refl _ _) | (with_reducible refine Below.alloc ?_ ?_ _) | (with_reducible refine Below.drew ?_) | (with_reducible refine below_drewN ?_ _) | (with_reducible refine Below.setCell ?_ ?_ _) | (with_reducible refine below_via ‹_› ?_ ?_) | (with_reducible refine below_grow ?_ ?_ _ _) | omega | (simp; done) | (simp; omega))), .inl ⟨by decide, rfl⟩⟩
  cases hq5 : inB t 0 4320
  · have HC := hid (fun z : Int => rt_bad (s := s) (a := a) (b := b) (c := c) (x := x) (y := y) (ws := ws) (t := t) (q := q) (by simp [*]) z)
    go_enter Try.func92, Try.ntmps92
    go_wp2_with (first | (go_at_call 59; refine (c_l25Ship _ _ s a b c _ hs (by first | assumption | (simp [*, go_sem]; done)) (by first | assumption | (simp [*, go_sem]; done)) (by first | assumption | (simp [*, go_sem]; done)) (by first | assumption | (simp [*, go_sem]; done))).mono ?_; rintro e w' ⟨rfl, rfl⟩) | (go_at_call 60; refine (c_l02Ok _ _ _).mono ?_; rintro e w1 ⟨rfl, hb⟩; obtain ⟨hc, hf⟩ := bcell hb; have hz := hb.size; (try simp at hz); (try have hz0 : ∀ b, b < w.heap.size → b < w1.heap.size := fun b h => by omega); (try have hz1 : w.heap.size < w1.heap.size := by omega); (try have hz2 : w.heap.size + 1 < w1.heap.size := by omega); (try have hz3 : w.heap.size + 2 < w1.heap.size := by omega)) | (go_at_call 61; refine (c_l25List _ _ _ (by first | (with_reducible assumption) | (with_reducible apply SlO.at; (with_reducible assumption); (repeat' (first | (with_reducible exact Below.refl _ _) | (with_reducible refine Below.alloc ?_ ?_ _) | (with_reducible refine Below.drew ?_) | (with_reducible refine below_drewN ?_ _) | (with_reducible refine Below.setCell ?_ ?_ _) | (with_reducible refine below_via ‹_› ?_ ?_) | (with_reducible refine below_grow ?_ ?_ _ _) | omega | (simp; done) | (simp; omega))); done) | (with_reducible apply SlA.at; (with_reducible assumption); (repeat' (first | (with_reducible exact Below.refl _ _) | (with_reducible refine Below.alloc ?_ ?_ _) | (with_reducible refine Below.drew ?_) | (with_reducible refine below_drewN ?_ _) | (with_reducible refine Below.setCell ?_ ?_ _) | (with_reducible refine below_via ‹_› ?_ ?_) | (with_reducible refine below_grow ?_ ?_ _ _) | omega | (simp; done) | (simp; omega))); done)) (by assumption)).mono ?_; rintro e w1 ⟨rfl, hb⟩; obtain ⟨hc, hf⟩ := bcell hb; have hz := hb.size; (try simp at hz); (try have hz0 : ∀ b, b < w.heap.size → b < w1.heap.size := fun b h => by omega); (try have hz1 : w.heap.size < w1.heap.size := by omega); (try have hz2 : w.heap.size + 1 < w1.heap.size := by omega); (try have hz3 : w.heap.size + 2 < w1.heap.size := by omega)) | (go_at_call 62; refine (c_l00In _ _ _ _).mono ?_; rintro e w' ⟨rfl, rfl⟩))
    go_ret2
    rw [HC.out]
    simp only [*, Bool.true_and, Bool.false_and, Bool.and_true, Bool.and_false, if_true, if_false, Bool.false_eq_true]
    exact ⟨by (repeat' (first | (with_reducible exact Below.refl _ _) | (with_reducible refine Below.alloc ?_ ?_ _) | (with_reducible refine Below.drew ?_) | (with_reducible refine below_drewN ?_ _) | (with_reducible refine Below.setCell ?_ ?_ _) | (with_reducible refine below_via ‹_› ?_ ?_) | (with_reducible refine below_grow ?_ ?_ _ _) | omega | (simp; done) | (simp; omega))), .inl ⟨by decide, rfl⟩⟩
  obtain ⟨e1, e2, e3, e4, e5, e6⟩ := shipB_true hq1
  have hqb := inB_true hq4
  have htb := inB_true hq5
  have hA0 := hid (show askN s a b c x y ws t = 0 by simp [askN, askC, *]; rfl)
  have HC := hid (show ∀ z, rtC s a b c x y ws t q z = if z = 5 then 5 else 0 from fun z => by unfold rtC; rw [if_pos hA0.out, hq4]; rfl)
  obtain ⟨n, hn⟩ : ∃ n : Nat, q = (n : Int) := ⟨q.toNat, by omega⟩
  have HN := hid (show q.toNat = n by omega)
  have hn2 : n ≤ 20000 := by omega
  have H := h
  have HFar := hid (fun hp => far_of h hp)
  subst hn
  have hGS : GreedS a b x y t ws [] x y t 0 := GreedS.start (by omega)
  clear h
  go_enter Try.func92, Try.ntmps92
  go_wp2_with (first | (go_at_call 59; refine (c_l25Ship _ _ s a b c _ hs (by first | assumption | (simp [*, go_sem]; done)) (by first | assumption | (simp [*, go_sem]; done)) (by first | assumption | (simp [*, go_sem]; done)) (by first | assumption | (simp [*, go_sem]; done))).mono ?_; rintro e w' ⟨rfl, rfl⟩) | (go_at_call 60; refine (c_l02Ok _ _ _).mono ?_; rintro e w1 ⟨rfl, hb⟩; obtain ⟨hc, hf⟩ := bcell hb; have hz := hb.size; (try simp at hz); (try have hz0 : ∀ b, b < w.heap.size → b < w1.heap.size := fun b h => by omega); (try have hz1 : w.heap.size < w1.heap.size := by omega); (try have hz2 : w.heap.size + 1 < w1.heap.size := by omega); (try have hz3 : w.heap.size + 2 < w1.heap.size := by omega)) | (go_at_call 61; refine (c_l25List _ _ _ (by first | (with_reducible assumption) | (with_reducible apply SlO.at; (with_reducible assumption); (repeat' (first | (with_reducible exact Below.refl _ _) | (with_reducible refine Below.alloc ?_ ?_ _) | (with_reducible refine Below.drew ?_) | (with_reducible refine below_drewN ?_ _) | (with_reducible refine Below.setCell ?_ ?_ _) | (with_reducible refine below_via ‹_› ?_ ?_) | (with_reducible refine below_grow ?_ ?_ _ _) | omega | (simp; done) | (simp; omega))); done) | (with_reducible apply SlA.at; (with_reducible assumption); (repeat' (first | (with_reducible exact Below.refl _ _) | (with_reducible refine Below.alloc ?_ ?_ _) | (with_reducible refine Below.drew ?_) | (with_reducible refine below_drewN ?_ _) | (with_reducible refine Below.setCell ?_ ?_ _) | (with_reducible refine below_via ‹_› ?_ ?_) | (with_reducible refine below_grow ?_ ?_ _ _) | omega | (simp; done) | (simp; omega))); done)) (by assumption)).mono ?_; rintro e w1 ⟨rfl, hb⟩; obtain ⟨hc, hf⟩ := bcell hb; have hz := hb.size; (try simp at hz); (try have hz0 : ∀ b, b < w.heap.size → b < w1.heap.size := fun b h => by omega); (try have hz1 : w.heap.size < w1.heap.size := by omega); (try have hz2 : w.heap.size + 1 < w1.heap.size := by omega); (try have hz3 : w.heap.size + 2 < w1.heap.size := by omega)) | (go_at_call 62; refine (c_l00In _ _ _ _).mono ?_; rintro e w' ⟨rfl, rfl⟩))
  obtain ⟨W1, hW1⟩ : ∃ z, z = w1.alloc (Obj.cells #[.pointer (some ⟨bs, 0, none⟩), .int .i64 x, .int .i64 y, .slice adl ws.length cpl, .int .i64 t, .int .i64 mode, .slice none 0 0, .slice none 0 0, .int .i64 0, .bool false, .int .i64 0, .slice none 0 0, .int .i64 0, .int .i64 0, .int .i64 (n : Int)] 110) := ⟨_, rfl⟩
  rw [← hW1]
  have hB0 : Below w.heap.size w w1 := by (repeat' (first | (with_reducible exact Below.refl _ _) | (with_reducible refine Below.alloc ?_ ?_ _) | (with_reducible refine Below.drew ?_) | (with_reducible refine below_drewN ?_ _) | (with_reducible refine Below.setCell ?_ ?_ _) | (with_reducible refine below_via ‹_› ?_ ?_) | (with_reducible refine below_grow ?_ ?_ _ _) | omega | (simp; done) | (simp; omega)))
  have hz0 := hB0.size
  have hB1 : Below w.heap.size w W1 := by rw [hW1]; exact Below.alloc hB0 (by omega) _
  have hBlk : Blk W1 w1.heap.size 110 [.pointer (some ⟨bs, 0, none⟩), .int .i64 x, .int .i64 y, .slice adl ws.length cpl, .int .i64 t, .int .i64 mode, .slice none 0 0, .slice none 0 0, .int .i64 0, .bool false, .int .i64 0, .slice none 0 0, .int .i64 0, .int .i64 0, .int .i64 (n : Int)] := by rw [hW1]; exact blk_alloc _ _ _
  obtain ⟨X, hX⟩ : ∃ X, X = w1.heap.size := ⟨_, rfl⟩
  rw [← hX] at hBlk ⊢
  have hBX : w.heap.size ≤ X := by omega
  have hXS : XS w.heap.size X bs x y t n mode (.slice adl ws.length cpl) W1 [] [] 0 spA0 0 (.slice none 0 0) (.slice none 0 0) (.slice none 0 0) 0 :=
    ⟨hBlk, World.ownsRow_nil _ _ _ _, World.ownsRow_nil _ _ _ _, ⟨.inl ⟨none, 0, rfl, rfl, Nat.zero_le _⟩, fun b hb => by simp [Value.ownBlock] at hb⟩, fun b hb => by simp [Value.ownBlock] at hb⟩
  have hEnv : Env w.heap.size bs a b (.slice adl ws.length cpl) ws W1 := ⟨hbs, hB1.size, below_cell hB1 hbs s1, below_cell hB1 hbs s2, H.at hB1, HFar.out⟩
  have ex := c_visit w.heap.size X bs a b x y t n mode adl cpl ws hBX hm (by omega) (by omega) hq3 hq2 (by omega) (by omega) (by omega) (by omega) (ws.length + 1) [] [] x y t 0 W1 n spA0 0 _ _ _ 0 (by simp) hGS rfl (by omega) (by omega) hq2 (by omega) (by omega) (by omega) hXS (by omega) (by omega) hEnv
  have HSF := hid (show spF mode a b x y ws t n = goF (takeF mode ws.length) (treeF (mayB a b x y ws t) ws.length (ws.length + 1) []) n spA0 by unfold spF seekF allT; rw [HN.out])
  obtain ⟨r, hr⟩ : ∃ r, r = goF (takeF mode ws.length) (treeF (mayB a b x y ws t) ws.length (ws.length + 1) []) n spA0 := ⟨_, rfl⟩
  have hleft := (goF_left (takeF mode ws.length) (treeF (mayB a b x y ws t) ws.length (ws.length + 1) []) n spA0).1
  rw [← hr] at ex HSF hleft
  unfold VisitR at ex
  obtain ⟨fur, hfur⟩ : ∃ z : Bool, z = (r.code == 0) := ⟨_, rfl⟩
  rw [← hfur] at ex
  obtain ⟨nd, hnd⟩ : ∃ nd : Int, nd = if r.code = 5 then (n : Int) + 1 else n - r.left := ⟨_, rfl⟩
  rw [← hnd] at ex
  have HBX := hid (m3_low hXS hBX)
  have HB1 := hid hB1
  clear hfur hr hW1 hX hBlk hXS hEnv hGS hc hf hz hb hB0 hB1 s0 s1 s2 s3 s1' s2' s3'
  by_cases hc5 : r.code = 5
  · have HC5 := hid (show rtC s a b c x y ws t n (spF mode a b x y ws t n).code = 5 by rw [HC.out, HSF.out, if_pos hc5])
    have hnd2 : nd = (n : Int) + 1 := by rw [hnd, if_pos hc5]
    have hd : decide ((n : Int) < nd) = true := decide_eq_true (by omega)
    clear hnd hc5
    have hndI : (n : Int) < nd := by omega
    clear hnd2
    refine ex.mono ?_
    rintro e w5 ⟨vO, vC, vB, least, rfl, hX5, -, -, hK5⟩
    have b13 : w5.cell? ⟨X, 13, none⟩ = some (.int .i64 nd) := hX5.blk.cell 13 rfl
    have HK5 := hid hK5
    clear hX5 hK5
    go_wp2
    go_ret2
    rw [HC5.out]
    exact ⟨HB1.out.trans (HK5.out.below HB1.out.size HBX.out), .inl ⟨by decide, rfl⟩⟩
  · have HC5 := hid (show rtC s a b c x y ws t n (spF mode a b x y ws t n).code = 0 by rw [HC.out, HSF.out, if_neg hc5])
    have hnd2 : nd = (n : Int) - r.left := by rw [hnd, if_neg hc5]
    have hd : decide ((n : Int) < nd) = false := decide_eq_false (by omega)
    clear hnd hc5
    have hndI : nd ≤ (n : Int) := by omega
    clear hnd2
    refine ex.mono ?_
    rintro e w5 ⟨vO, vC, vB, least, rfl, hX5, -, -, hK5⟩
    have b13 : w5.cell? ⟨X, 13, none⟩ = some (.int .i64 nd) := hX5.blk.cell 13 rfl
    have HK5 := hid hK5
    have HX5 := hid hX5
    clear hX5 hK5
    go_wp2
    go_ret2
    rw [HC5.out, HSF.out]
    exact ⟨HB1.out.trans (HK5.out.below HB1.out.size HBX.out), .inr ⟨rfl, _, _, _, _, _, _, rfl, HX5.out⟩⟩
/-! ### what the three modes come to -/
theorem goF_sim {A C : Type} {ra : A → List Int → A × Bool} {rb : C → List Int → C × Bool} {P Q : A → C → Prop} (hPQ : ∀ a c, P a c → Q a c) (hs : ∀ a c os, P a c → (ra a os).2 = (rb c os).2 ∧ Q (ra a os).1 (rb c os).1 ∧ ((ra a os).2 = true → P (ra a os).1 (rb c os).1)) :
    ∀ (xs : List (List Int)) (b : Nat) (a : A) (c : C), P a c → (goF ra xs b a).code = (goF rb xs b c).code ∧ Q (goF ra xs b a).ans (goF rb xs b c).ans
  | [], b, a, c, h => ⟨rfl, hPQ a c h⟩
  | x :: xs, b, a, c, h => by
    by_cases hb : b = 0
    · subst hb; exact ⟨rfl, hPQ a c h⟩
    · obtain ⟨h1, h2, h3⟩ := hs a c x h
      cases h4 : (ra a x).2
      · rw [goF_stop hb h4, goF_stop hb (h1 ▸ h4)]; exact ⟨rfl, h2⟩
      · rw [goF_on hb h4, goF_on hb (h1 ▸ h4)]; exact goF_sim hPQ hs xs _ _ _ (h3 h4)
theorem sp_first (a b x y : Int) (ws : List WorkD) (t q : Int) : (spF 1 a b x y ws t q).code = (fvA a b x y ws t q).code ∧ ((spF 1 a b x y ws t q).ans.found = (fvA a b x y ws t q).ans.isSome ∧ ((fvA a b x y ws t q).ans.isSome = true → (spF 1 a b x y ws t q).ans.best = (fvA a b x y ws t q).ans.getD [])) := by
  refine goF_sim (P := fun (A : SpA) c => A = spA0 ∧ c = none) (Q := fun (A : SpA) c => A.found = c.isSome ∧ (c.isSome = true → A.best = c.getD [])) (fun A c h => ?_) (fun A c os h => ?_) _ _ _ _ ⟨rfl, rfl⟩
  · obtain ⟨rfl, rfl⟩ := h; exact ⟨rfl, fun h => by cases h⟩
  · obtain ⟨rfl, rfl⟩ := h
    by_cases hf : os.length = ws.length
    · simp [takeF, firstI, spA0, hf]
    · simp [takeF, firstI, spA0, hf]
theorem sp_count (a b x y : Int) (ws : List WorkD) (t q : Int) : (spF 2 a b x y ws t q).code = (cvA a b x y ws t q).code ∧ (spF 2 a b x y ws t q).ans.count = (cvA a b x y ws t q).ans := by
  refine goF_sim (P := fun (A : SpA) c => A.count = c) (Q := fun (A : SpA) c => A.count = c) (fun A c h => h) (fun A c os h => ?_) _ _ _ _ rfl
  subst h
  by_cases hf : os.length = ws.length
  · cases hh : A.found <;> simp [takeF, countI, hf, hh]
  · simp [takeF, countI, hf]
theorem sp_most (a b x y : Int) (ws : List WorkD) (t q : Int) : (spF 4 a b x y ws t q).code = (mwA a b x y ws t q).code ∧ (spF 4 a b x y ws t q).ans.best = (mwA a b x y ws t q).ans := by
  refine goF_sim (P := fun (A : SpA) c => A.best = c ∧ (A.found = false → A.best = [])) (Q := fun (A : SpA) c => A.best = c) (fun A c h => h.1) (fun A c os h => ?_) _ _ _ _ ⟨rfl, fun _ => rfl⟩
  obtain ⟨h1, h2⟩ := h
  subst h1
  cases hh : A.found
  · have hb := h2 hh
    by_cases hl : 0 < os.length
    · simp [takeF, mostI, hh, hb, hl]
    · have : os = [] := List.eq_nil_of_length_eq_zero (by omega)
      subst this
      simp [takeF, mostI, hh, hb]
  · by_cases hl : A.best.length < os.length
    · simp [takeF, mostI, hh, hl]
    · simp [takeF, mostI, hh, hl]
theorem rtC_zero {s : ByteArray} {a b c x y : Int} {ws : List WorkD} {t q z : Int} (h : rtC s a b c x y ws t q z = 0) : askN s a b c x y ws t = 0 ∧ 1 ≤ q ∧ q ≤ 20000 := by
  unfold rtC at h
  split at h
  · rename_i h0
    split at h
    · rename_i hq; have := inB_true hq; exact ⟨h0, by omega, by omega⟩
    · cases h
  · rename_i h0; exact absurd h h0
theorem sp_len {s : ByteArray} {a b c x y : Int} {ws : List WorkD} {t q mode : Int} (h : askN s a b c x y ws t = 0) : (spF mode a b x y ws t q).ans.best.length ≤ ws.length ∧ ws.length ≤ 12 := by
  obtain ⟨e1, e2, e3, hw, e5, e6, -⟩ := askC_ship h
  have l1 : 0 ≤ b := by have := shipB_true (askC_load h).1; omega
  refine ⟨?_, (works_all hw).1⟩
  refine goF_inv (P := fun A : SpA => A.best.length ≤ ws.length) (Q := fun os => os.length ≤ ws.length) (fun A os hA ho => ?_) _ _ _ (fun os ho => (tree_fine _ _ ⟨_, _, _, _, GreedS.start l1⟩ os ho).len) (by simp [spA0])
  unfold takeF
  split
  · split
    · exact ho
    · exact hA
  · split
    · split
      · exact ho
      · exact hA
    · exact hA
theorem sp_found {a b x y : Int} {ws : List WorkD} {t q : Int} (h : 1 ≤ q) : (spF 4 a b x y ws t q).ans.found = true := by
  have hq : q.toNat ≠ 0 := by omega
  unfold spF seekF allT
  rw [leftF_start, goF_on hq (by simp [takeF, spA0])]
  refine goF_inv (P := fun A : SpA => A.found = true) (Q := fun _ => True) (fun A os hA _ => ?_) _ _ _ (fun _ _ => trivial) (by simp [takeF, spA0])
  simp only [takeF, hA]
  split
  · split <;> simp_all
  · split <;> simp_all
def olC (mode : Int) (s : ByteArray) (a b c x y : Int) (ws : List WorkD) (t q : Int) : Int := if rtC s a b c x y ws t q (spF mode a b x y ws t q).code = 0 then (if (spF mode a b x y ws t q).ans.found then 0 else 3) else rtC s a b c x y ws t q (spF mode a b x y ws t q).code
def olL (mode : Int) (s : ByteArray) (a b c x y : Int) (ws : List WorkD) (t q : Int) : List Int := if rtC s a b c x y ws t q (spF mode a b x y ws t q).code = 0 ∧ (spF mode a b x y ws t q).ans.found = true then (spF mode a b x y ws t q).ans.best else []
theorem ol_first (s : ByteArray) (a b c x y : Int) (ws : List WorkD) (t q : Int) : olC 1 s a b c x y ws t q = fvC s a b c x y ws t q ∧ olL 1 s a b c x y ws t q = fvL s a b c x y ws t q := by
  obtain ⟨h1, h2, h3⟩ := sp_first a b x y ws t q
  unfold olC olL fvC fvL
  rw [h1, h2]
  refine ⟨rfl, ?_⟩
  cases hs : (fvA a b x y ws t q).ans with
  | none => simp
  | some os => rw [hs] at h3; simp [h3 rfl]
theorem ol_most (s : ByteArray) (a b c x y : Int) (ws : List WorkD) (t q : Int) : olC 4 s a b c x y ws t q = mwC s a b c x y ws t q ∧ olL 4 s a b c x y ws t q = mwL s a b c x y ws t q := by
  obtain ⟨h1, h2⟩ := sp_most a b x y ws t q
  unfold olC olL mwL mwC
  rw [h1, h2]
  by_cases h0 : rtC s a b c x y ws t q (mwA a b x y ws t q).code = 0
  · have hf := sp_found (a := a) (b := b) (x := x) (y := y) (ws := ws) (t := t) (rtC_zero h0).2.1
    simp [h0, hf]
  · simp [h0]
set_option maxHeartbeats 2000000 in
theorem c_l27Order (bs : Nat) (s : ByteArray) (a b c x y t q mode : Int) (v : Value) (ws : List WorkD) (w : World) (hbs : bs < w.heap.size) (s0 : w.cell? ⟨bs, 0, none⟩ = some (.string s)) (s1 : w.cell? ⟨bs, 1, none⟩ = some (.int .i64 a)) (s2 : w.cell? ⟨bs, 2, none⟩ = some (.int .i64 b)) (s3 : w.cell? ⟨bs, 3, none⟩ = some (.int .i64 c))
    (hs : s.size ≤ maxLen) (h : SlA w 0 7 encWork v ws) (hok : ∀ x ∈ ws, okWork x) (hm : mode = 1 ∨ mode = 2 ∨ mode = 4) :
    Calls Try.prog 94 #[.pointer (some ⟨bs, 0, none⟩), .agg #[.int .i64 x, .int .i64 y], v, .int .i64 t, .int .i64 q, .int .i64 mode] w fun e w' => OrderCode w w' (olL mode s a b c x y ws t q) (olC mode s a b c x y ws t q) e := by
  obtain ⟨adl, cpl, hvf⟩ := h.form
  subst hvf
  have HC := hid (show olC mode s a b c x y ws t q = if rtC s a b c x y ws t q (spF mode a b x y ws t q).code = 0 then (if (spF mode a b x y ws t q).ans.found then 0 else 3) else rtC s a b c x y ws t q (spF mode a b x y ws t q).code from rfl)
  have HV := hid (show olL mode s a b c x y ws t q = if rtC s a b c x y ws t q (spF mode a b x y ws t q).code = 0 ∧ (spF mode a b x y ws t q).ans.found = true then (spF mode a b x y ws t q).ans.best else [] from rfl)
  have HLn := hid (fun h0 : rtC s a b c x y ws t q (spF mode a b x y ws t q).code = 0 => sp_len (mode := mode) (q := q) (rtC_zero h0).1)
  have cr := fun (wq : World) (hb : Below w.heap.size w wq) => c_l27Run bs s a b c x y t q mode adl cpl ws wq (Nat.lt_of_lt_of_le hbs hb.size) (below_cell hb hbs s0) (below_cell hb hbs s1) (below_cell hb hbs s2) (below_cell hb hbs s3) hs (h.at hb) hok hm
  obtain ⟨A, hA⟩ : ∃ A, A = (spF mode a b x y ws t q).ans := ⟨_, rfl⟩
  obtain ⟨code, hcode⟩ : ∃ z, z = rtC s a b c x y ws t q (spF mode a b x y ws t q).code := ⟨_, rfl⟩
  rw [← hA, ← hcode] at HC HV HLn
  simp only [← hA, ← hcode] at cr
  clear hA hcode s0 s1 s2 s3 h
  go_enter Try.func94, Try.ntmps94
  go_wp2_with fail
  refine (cr _ (by (repeat' (first | (with_reducible exact Below.refl _ _) | (with_reducible refine Below.alloc ?_ ?_ _) | (with_reducible refine Below.drew ?_) | (with_reducible refine below_drewN ?_ _) | (with_reducible refine Below.setCell ?_ ?_ _) | (with_reducible refine below_via ‹_› ?_ ?_) | (with_reducible refine below_grow ?_ ?_ _ _) | omega | (simp; done) | (simp; omega))))).mono ?_
  rintro e w1 ⟨hb, ⟨hne, rfl⟩ | ⟨h0, X, nodes, vO, vC, vB, least, rfl, hX⟩⟩
  · have hneb : (code != 0) = true := by simpa using hne
    have HC2 := hid (show olC mode s a b c x y ws t q = code by rw [HC.out, if_neg hne])
    have HV2 := hid (show olL mode s a b c x y ws t q = [] by rw [HV.out, if_neg (fun h => hne h.1)])
    have hB1 : Below w.heap.size w w1 := by (repeat' (first | (with_reducible exact Below.refl _ _) | (with_reducible refine Below.alloc ?_ ?_ _) | (with_reducible refine Below.drew ?_) | (with_reducible refine below_drewN ?_ _) | (with_reducible refine Below.setCell ?_ ?_ _) | (with_reducible refine below_via ‹_› ?_ ?_) | (with_reducible refine below_grow ?_ ?_ _ _) | omega | (simp; done) | (simp; omega)))
    clear hne cr hb
    go_wp2
    go_ret2
    rw [HC2.out]
    exact orderCode_none hB1 HV2.out
  · subst h0
    have hB1 : Below w.heap.size w w1 := by (repeat' (first | (with_reducible exact Below.refl _ _) | (with_reducible refine Below.alloc ?_ ?_ _) | (with_reducible refine Below.drew ?_) | (with_reducible refine below_drewN ?_ _) | (with_reducible refine Below.setCell ?_ ?_ _) | (with_reducible refine below_via ‹_› ?_ ?_) | (with_reducible refine below_grow ?_ ?_ _ _) | omega | (simp; done) | (simp; omega)))
    have hb8 : w1.cell? ⟨X, 9, none⟩ = some (.bool A.found) := hX.blk.cell 9 rfl
    obtain ⟨adB, cpB, hBf⟩ := hX.best.1.form
    subst hBf
    have hb11 : w1.cell? ⟨X, 11, none⟩ = some (.slice adB A.best.length cpB) := hX.blk.cell 11 rfl
    have hln := HLn.out rfl
    have HX := hid hX
    have hz1 := hb.size
    cases hf : A.found
    · have HC2 := hid (show olC mode s a b c x y ws t q = 3 by rw [HC.out, if_pos rfl, hf]; rfl)
      have HV2 := hid (show olL mode s a b c x y ws t q = [] by rw [HV.out, hf]; rfl)
      rw [hf] at hb8
      clear hf cr hb hX
      go_wp2
      go_ret2
      rw [HC2.out]
      exact orderCode_none hB1 HV2.out
    · have HC2 := hid (show olC mode s a b c x y ws t q = 0 by rw [HC.out, if_pos rfl, hf]; rfl)
      have HV2 := hid (show olL mode s a b c x y ws t q = A.best by rw [HV.out, hf]; rfl)
      rw [hf] at hb8
      clear hf cr hb hX
      go_wp2_with fail
      refine (c_l00Own _ A.best _ (HX.out.best.1.mono (Nat.zero_le _)) (by omega)).mono ?_
      rintro e w2 ⟨u, rfl, hb2, hS2⟩
      have hB2 : Below w.heap.size w w2 := hB1.trans (hb2.mono hB1.size)
      have HS2 := hid (hS2.mono hB1.size)
      clear hS2
      go_wp2
      go_ret2
      rw [HC2.out, HV2.out]
      exact ⟨_, rfl, hB2, HS2.out⟩
set_option maxHeartbeats 1000000 in
theorem c_spec_FirstVoyage (s : ByteArray) (a b c x y : Int) (v : Value) (ws : List WorkD) (t q : Int) (w : World) (hs : s.size ≤ maxLen) (h : SlA w 0 7 encWork v ws) (hok : ∀ x ∈ ws, okWork x) :
    Calls Try.prog 55 #[.agg #[.string s, .int .i64 a, .int .i64 b, .int .i64 c], .agg #[.int .i64 x, .int .i64 y], v, .int .i64 t, .int .i64 q] w fun e w' => OrderCode w w' (fvL s a b c x y ws t q) (fvC s a b c x y ws t q) e := by
  have HO := hid (ol_first s a b c x y ws t q)
  go_enter Try.func55, Try.ntmps55
  go_wp2_with fail
  refine (c_l27Order w.heap.size s a b c x y t q 1 v ws _ (by simp; omega) (by simp [go_sem]) (by simp [go_sem]) (by simp [go_sem]) (by simp [go_sem]) hs (by first | (with_reducible assumption) | (with_reducible apply SlO.at; (with_reducible assumption); (repeat' (first | (with_reducible exact Below.refl _ _) | (with_reducible refine Below.alloc ?_ ?_ _) | (with_reducible refine Below.drew ?_) | (with_reducible refine below_drewN ?_ _) | (with_reducible refine Below.setCell ?_ ?_ _) | (with_reducible refine below_via ‹_› ?_ ?_) | (with_reducible refine below_grow ?_ ?_ _ _) | omega | (simp; done) | (simp; omega))); done) | (with_reducible apply SlA.at; (with_reducible assumption); (repeat' (first | (with_reducible exact Below.refl _ _) | (with_reducible refine Below.alloc ?_ ?_ _) | (with_reducible refine Below.drew ?_) | (with_reducible refine below_drewN ?_ _) | (with_reducible refine Below.setCell ?_ ?_ _) | (with_reducible refine below_via ‹_› ?_ ?_) | (with_reducible refine below_grow ?_ ?_ _ _) | omega | (simp; done) | (simp; omega))); done)) hok (by omega)).mono ?_
  rintro e w1 ⟨u, rfl, hb, hS⟩
  obtain ⟨adu, cpu, rfl⟩ := hS.1.form
  have hB1 : Below w.heap.size w w1 := by (repeat' (first | (with_reducible exact Below.refl _ _) | (with_reducible refine Below.alloc ?_ ?_ _) | (with_reducible refine Below.drew ?_) | (with_reducible refine below_drewN ?_ _) | (with_reducible refine Below.setCell ?_ ?_ _) | (with_reducible refine below_via ‹_› ?_ ?_) | (with_reducible refine below_grow ?_ ?_ _ _) | omega | (simp; done) | (simp; omega)))
  have HS := hid hS
  have hz := hb.size
  clear hS
  go_wp2
  go_ret2
  rw [HO.out.1]
  have hs2 := HS.out
  rw [HO.out.2] at hs2 ⊢
  exact ⟨_, rfl, hB1, hs2.mono (by first | (simp; done) | (simp; omega))⟩
set_option maxHeartbeats 1000000 in
theorem c_spec_MostWorks (s : ByteArray) (a b c x y : Int) (v : Value) (ws : List WorkD) (t q : Int) (w : World) (hs : s.size ≤ maxLen) (h : SlA w 0 7 encWork v ws) (hok : ∀ x ∈ ws, okWork x) :
    Calls Try.prog 54 #[.agg #[.string s, .int .i64 a, .int .i64 b, .int .i64 c], .agg #[.int .i64 x, .int .i64 y], v, .int .i64 t, .int .i64 q] w fun e w' => OrderCode w w' (mwL s a b c x y ws t q) (mwC s a b c x y ws t q) e := by
  have HO := hid (ol_most s a b c x y ws t q)
  go_enter Try.func54, Try.ntmps54
  go_wp2_with fail
  refine (c_l27Order w.heap.size s a b c x y t q 4 v ws _ (by simp; omega) (by simp [go_sem]) (by simp [go_sem]) (by simp [go_sem]) (by simp [go_sem]) hs (by first | (with_reducible assumption) | (with_reducible apply SlO.at; (with_reducible assumption); (repeat' (first | (with_reducible exact Below.refl _ _) | (with_reducible refine Below.alloc ?_ ?_ _) | (with_reducible refine Below.drew ?_) | (with_reducible refine below_drewN ?_ _) | (with_reducible refine Below.setCell ?_ ?_ _) | (with_reducible refine below_via ‹_› ?_ ?_) | (with_reducible refine below_grow ?_ ?_ _ _) | omega | (simp; done) | (simp; omega))); done) | (with_reducible apply SlA.at; (with_reducible assumption); (repeat' (first | (with_reducible exact Below.refl _ _) | (with_reducible refine Below.alloc ?_ ?_ _) | (with_reducible refine Below.drew ?_) | (with_reducible refine below_drewN ?_ _) | (with_reducible refine Below.setCell ?_ ?_ _) | (with_reducible refine below_via ‹_› ?_ ?_) | (with_reducible refine below_grow ?_ ?_ _ _) | omega | (simp; done) | (simp; omega))); done)) hok (by omega)).mono ?_
  rintro e w1 ⟨u, rfl, hb, hS⟩
  obtain ⟨adu, cpu, rfl⟩ := hS.1.form
  have hB1 : Below w.heap.size w w1 := by (repeat' (first | (with_reducible exact Below.refl _ _) | (with_reducible refine Below.alloc ?_ ?_ _) | (with_reducible refine Below.drew ?_) | (with_reducible refine below_drewN ?_ _) | (with_reducible refine Below.setCell ?_ ?_ _) | (with_reducible refine below_via ‹_› ?_ ?_) | (with_reducible refine below_grow ?_ ?_ _ _) | omega | (simp; done) | (simp; omega)))
  have HS := hid hS
  have hz := hb.size
  clear hS
  go_wp2
  go_ret2
  rw [HO.out.1]
  have hs2 := HS.out
  rw [HO.out.2] at hs2 ⊢
  exact ⟨_, rfl, hB1, hs2.mono (by first | (simp; done) | (simp; omega))⟩
set_option maxHeartbeats 1000000 in
theorem c_spec_CountVoyages (s : ByteArray) (a b c x y : Int) (v : Value) (ws : List WorkD) (t q : Int) (w : World) (hs : s.size ≤ maxLen) (h : SlA w 0 7 encWork v ws) (hok : ∀ x ∈ ws, okWork x) :
    Calls Try.prog 50 #[.agg #[.string s, .int .i64 a, .int .i64 b, .int .i64 c], .agg #[.int .i64 x, .int .i64 y], v, .int .i64 t, .int .i64 q] w fun e w' => e = .returned (.tuple #[.int .i64 (cvV s a b c x y ws t q), .int .i64 (cvC s a b c x y ws t q)]) ∧ Below w.heap.size w w' := by
  obtain ⟨adl, cpl, hvf⟩ := h.form
  subst hvf
  obtain ⟨h1, h2⟩ := sp_count a b x y ws t q
  have HC := hid (show rtC s a b c x y ws t q (spF 2 a b x y ws t q).code = cvC s a b c x y ws t q by rw [h1]; rfl)
  have HA := hid h2
  clear h1 h2
  go_enter Try.func50, Try.ntmps50
  go_wp2_with fail
  refine (c_l27Run w.heap.size s a b c x y t q 2 adl cpl ws _ (by simp; omega) (by simp [go_sem]) (by simp [go_sem]) (by simp [go_sem]) (by simp [go_sem]) hs (by first | (with_reducible assumption) | (with_reducible apply SlO.at; (with_reducible assumption); (repeat' (first | (with_reducible exact Below.refl _ _) | (with_reducible refine Below.alloc ?_ ?_ _) | (with_reducible refine Below.drew ?_) | (with_reducible refine below_drewN ?_ _) | (with_reducible refine Below.setCell ?_ ?_ _) | (with_reducible refine below_via ‹_› ?_ ?_) | (with_reducible refine below_grow ?_ ?_ _ _) | omega | (simp; done) | (simp; omega))); done) | (with_reducible apply SlA.at; (with_reducible assumption); (repeat' (first | (with_reducible exact Below.refl _ _) | (with_reducible refine Below.alloc ?_ ?_ _) | (with_reducible refine Below.drew ?_) | (with_reducible refine below_drewN ?_ _) | (with_reducible refine Below.setCell ?_ ?_ _) | (with_reducible refine below_via ‹_› ?_ ?_) | (with_reducible refine below_grow ?_ ?_ _ _) | omega | (simp; done) | (simp; omega))); done)) hok (by omega)).mono ?_
  rw [HC.out]
  rintro e w1 ⟨hb, ⟨hne, rfl⟩ | ⟨h0, X, nodes, vO, vC, vB, least, rfl, hX⟩⟩
  · have hneb : (cvC s a b c x y ws t q != 0) = true := by simpa using hne
    have HV := hid (show cvV s a b c x y ws t q = 0 by rw [cvV, if_neg hne])
    have hB1 : Below w.heap.size w w1 := by (repeat' (first | (with_reducible exact Below.refl _ _) | (with_reducible refine Below.alloc ?_ ?_ _) | (with_reducible refine Below.drew ?_) | (with_reducible refine below_drewN ?_ _) | (with_reducible refine Below.setCell ?_ ?_ _) | (with_reducible refine below_via ‹_› ?_ ?_) | (with_reducible refine below_grow ?_ ?_ _ _) | omega | (simp; done) | (simp; omega)))
    clear hne hb
    go_wp2
    go_ret2
    exact ⟨by rw [HV.out]; rfl, hB1⟩
  · have HV := hid (show cvV s a b c x y ws t q = (cvA a b x y ws t q).ans by rw [cvV, if_pos h0])
    have H0 := hid h0
    have hB1 : Below w.heap.size w w1 := by (repeat' (first | (with_reducible exact Below.refl _ _) | (with_reducible refine Below.alloc ?_ ?_ _) | (with_reducible refine Below.drew ?_) | (with_reducible refine below_drewN ?_ _) | (with_reducible refine Below.setCell ?_ ?_ _) | (with_reducible refine below_via ‹_› ?_ ?_) | (with_reducible refine below_grow ?_ ?_ _ _) | omega | (simp; done) | (simp; omega)))
    have hb10 : w1.cell? ⟨X, 10, none⟩ = some (.int .i64 (spF 2 a b x y ws t q).ans.count) := hX.blk.cell 10 rfl
    rw [HA.out] at hb10
    clear h0 hb hX
    go_wp2
    go_ret2
    exact ⟨by rw [HV.out, H0.out]; rfl, hB1⟩
theorem fvL_len (s : ByteArray) (a b c x y : Int) (ws : List WorkD) (t q : Int) : (fvL s a b c x y ws t q).length ≤ ws.length := by
  rw [← (ol_first s a b c x y ws t q).2, olL]
  split
  · rename_i h; exact (sp_len (rtC_zero h.1).1).1
  · simp
theorem mwL_len (s : ByteArray) (a b c x y : Int) (ws : List WorkD) (t q : Int) : (mwL s a b c x y ws t q).length ≤ ws.length := by
  rw [← (ol_most s a b c x y ws t q).2, olL]
  split
  · rename_i h; exact (sp_len (rtC_zero h.1).1).1
  · simp
end Go.Proofs.Ytmolcfagmiecjaa
