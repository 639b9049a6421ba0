/- The text of a tide, both sides. -/
import Derived.Test.YtabbhlehbhadiaaGreatDoorPointT
import Derived.Test.YtabbhlehbhadiaaGreatDoorTide
import Derived.Test.YtabbhlehbhadiaaGreatDoorShipT
namespace Go.Proofs.YtabbhlehbhadiaaGreatDoor
open Go.RowKit Go.Sort
set_option linter.unusedVariables false
set_option maxRecDepth 100000

def tideT (a b : Int) (xs : List Int) : List UInt8 := Lib.itoa a ++ 32 :: (Lib.itoa b ++ 32 :: listL xs)
def tideR (a b : Int) (xs : List Int) : ByteArray := if tideB a b xs then bs (tideT a b xs) else ⟨#[]⟩
theorem tide_cat (a b : Int) (l : List UInt8) : decS a ++ (⟨#[32]⟩ : ByteArray) ++ decS b ++ (⟨#[32]⟩ : ByteArray) ++ bs l = bs (Lib.itoa a ++ 32 :: (Lib.itoa b ++ 32 :: l)) := by
  have e : (⟨#[32]⟩ : ByteArray) = bs [32] := rfl
  rw [decS_bs, decS_bs, e, bs_app, bs_app, bs_app, bs_app]; simp
theorem big_noT {n : Nat} (h : n ≤ 9000000000000000000) : ¬ (9223372036854775807 < n) ∧ ¬ (9223372036854775807 ≤ n) := by omega
theorem tide_fits {a b : Int} {xs : List Int} (h : tideB a b xs = true) : fitsB xs = true := by
  obtain ⟨h1, h2, h3, -⟩ := tideB_true h
  simp only [fitsB, Bool.and_eq_true, decide_eq_true_eq, List.all_eq_true]
  refine ⟨by omega, fun x hx => inB_of ?_ ?_⟩
  · have := h1 x hx; omega
  · have := h1 x hx; omega
set_option maxHeartbeats 4000000 in
theorem c_impl_TideText (a b : Int) (v : Value) (xs : List Int) (w : World) (h : SlA w 0 1 encI v xs) (hok : ∀ x ∈ xs, I64 x) (hl : xs.length ≤ 1048576) (ha : I64 a) (hb0 : I64 b) (hp : Pow w) :
    Calls Tryz.prog 12 #[.agg #[.int .i64 a, .int .i64 b, v]] w fun e w' => e = .returned (.string (tideR a b xs)) ∧ Below w.heap.size w w' := by
  cases hq : tideB a b xs
  · have HR := hid (show tideR a b xs = ⟨#[]⟩ by rw [tideR, hq]; rfl)
    go_enter Tryz.func12, Tryz.ntmps12
    go_wp2_with (first | (go_at_call 32; refine (c_impl_ValidTide a b v xs _ (by first | (with_reducible assumption) | (with_reducible apply SlO.at; (with_reducible assumption); (repeat' (first | (with_reducible exact Below.refl _ _) | (with_reducible refine Below.alloc ?_ ?_ _) | (with_reducible refine Below.drew ?_) | (with_reducible refine below_drewN ?_ _) | (with_reducible refine Below.setCell ?_ ?_ _) | (with_reducible refine below_via ‹_› ?_ ?_) | (with_reducible refine below_grow ?_ ?_ _ _) | omega | (simp; done) | (simp; omega))); done) | (with_reducible apply SlA.at; (with_reducible assumption); (repeat' (first | (with_reducible exact Below.refl _ _) | (with_reducible refine Below.alloc ?_ ?_ _) | (with_reducible refine Below.drew ?_) | (with_reducible refine below_drewN ?_ _) | (with_reducible refine Below.setCell ?_ ?_ _) | (with_reducible refine below_via ‹_› ?_ ?_) | (with_reducible refine below_grow ?_ ?_ _ _) | omega | (simp; done) | (simp; omega))); done)) hl).mono ?_; rintro e w1 ⟨rfl, hb⟩; obtain ⟨hc, hf⟩ := bcell hb; have hz := hb.size; (try simp at hz); (try have hz0 : ∀ b, b < w.heap.size → b < w1.heap.size := fun b h => by omega); (try have hz1 : w.heap.size < w1.heap.size := by omega); (try have hz2 : w.heap.size + 1 < w1.heap.size := by omega); (try have hz3 : w.heap.size + 2 < w1.heap.size := by omega)))
    go_ret
    rw [HR.out]
    exact ⟨rfl, by (repeat' (first | (with_reducible exact Below.refl _ _) | (with_reducible refine Below.alloc ?_ ?_ _) | (with_reducible refine Below.drew ?_) | (with_reducible refine below_drewN ?_ _) | (with_reducible refine Below.setCell ?_ ?_ _) | (with_reducible refine below_via ‹_› ?_ ?_) | (with_reducible refine below_grow ?_ ?_ _ _) | omega | (simp; done) | (simp; omega)))⟩
  · have HR := hid (show tideR a b xs = bs (tideT a b xs) by rw [tideR, hq]; rfl)
    have h64 := (tideB_true hq).2.2.1
    have hz := listL_size hok
    have hsz : (bs (listL xs)).size ≤ 1409 := by rw [bs_size]; omega
    have HC := hid (tide_cat a b (listL xs))
    obtain ⟨l, hl'⟩ : ∃ l, l = listL xs := ⟨_, rfl⟩
    rw [← hl'] at hsz HC
    have HL := hid hl'
    have HLT := hid (show listT xs = bs l by rw [listT_ok (tide_fits hq), hl'])
    have cl : ∀ w', SlA w' 0 1 encI v xs → Pow w' → Calls Tryz.prog 40 #[v] w' fun e w'' => e = .returned (.string (bs l)) ∧ Below w'.heap.size w' w'' := fun w' h' hp' => by rw [← HLT.out]; exact c_ListText v xs w' h' hok hl hp'
    have sa := decS_size ha
    have sb := decS_size hb0
    obtain ⟨r1, r1'⟩ := big_noT (n := (decS a).size + 1) (by omega)
    obtain ⟨r2, r2'⟩ := big_noT (n := (decS a).size + 1 + (decS b).size) (by omega)
    obtain ⟨r3, r3'⟩ := big_noT (n := (decS a).size + 1 + (decS b).size + 1) (by omega)
    obtain ⟨r4, r4'⟩ := big_noT (n := (decS a).size + 1 + (decS b).size + 1 + (bs l).size) (by omega)
    obtain ⟨r5, r5'⟩ := big_noT (n := (decS a).size) (by omega)
    clear hl' hz
    go_enter Tryz.func12, Tryz.ntmps12
    go_wp2_with (first | (go_at_call 32; refine (c_impl_ValidTide a b v xs _ (by first | (with_reducible assumption) | (with_reducible apply SlO.at; (with_reducible assumption); (repeat' (first | (with_reducible exact Below.refl _ _) | (with_reducible refine Below.alloc ?_ ?_ _) | (with_reducible refine Below.drew ?_) | (with_reducible refine below_drewN ?_ _) | (with_reducible refine Below.setCell ?_ ?_ _) | (with_reducible refine below_via ‹_› ?_ ?_) | (with_reducible refine below_grow ?_ ?_ _ _) | omega | (simp; done) | (simp; omega))); done) | (with_reducible apply SlA.at; (with_reducible assumption); (repeat' (first | (with_reducible exact Below.refl _ _) | (with_reducible refine Below.alloc ?_ ?_ _) | (with_reducible refine Below.drew ?_) | (with_reducible refine below_drewN ?_ _) | (with_reducible refine Below.setCell ?_ ?_ _) | (with_reducible refine below_via ‹_› ?_ ?_) | (with_reducible refine below_grow ?_ ?_ _ _) | omega | (simp; done) | (simp; omega))); done)) hl).mono ?_; rintro e w1 ⟨rfl, hb⟩; obtain ⟨hc, hf⟩ := bcell hb; have hz := hb.size; (try simp at hz); (try have hz0 : ∀ b, b < w.heap.size → b < w1.heap.size := fun b h => by omega); (try have hz1 : w.heap.size < w1.heap.size := by omega); (try have hz2 : w.heap.size + 1 < w1.heap.size := by omega); (try have hz3 : w.heap.size + 2 < w1.heap.size := by omega)))
    have q0 : w1.cell? ⟨w.heap.size, 0, none⟩ = some (.int .i64 a) := by simp [hc]
    have q1 : w1.cell? ⟨w.heap.size, 1, none⟩ = some (.int .i64 b) := by simp [hc]
    have q2 : w1.cell? ⟨w.heap.size, 2, none⟩ = some v := by simp [hc]
    have g0 := cellr q0
    have g1 := cellr q1
    have g2 := cellr q2
    have hB1 : Below w.heap.size w w1 := by (repeat' (first | (with_reducible exact Below.refl _ _) | (with_reducible refine Below.alloc ?_ ?_ _) | (with_reducible refine Below.drew ?_) | (with_reducible refine below_drewN ?_ _) | (with_reducible refine Below.setCell ?_ ?_ _) | (with_reducible refine below_via ‹_› ?_ ?_) | (with_reducible refine below_grow ?_ ?_ _ _) | omega | (simp; done) | (simp; omega)))
    have hs1 := h.at hB1
    have hp1 := hp.at hB1
    clear q0 q1 q2 hc hf hb
    (refine wp_region_quiet_below (by kernel_rfl) (by kernel_rfl) ?_; (repeat (first | go_big_quiet_step ((first | (go_at_call 39; exact regrown_of (c_Decimal _ _ (by first | assumption | (unfold I64; omega)) (hp1.at (by (repeat' (first | (with_reducible exact Below.refl _ _) | (with_reducible refine Below.alloc ?_ ?_ _) | (with_reducible refine Below.drew ?_) | (with_reducible refine below_drewN ?_ _) | (with_reducible refine Below.setCell ?_ ?_ _) | (with_reducible refine below_via ‹_› ?_ ?_) | (with_reducible refine below_grow ?_ ?_ _ _) | omega | (simp; done) | (simp; omega))))))) | (go_at_call 40; exact regrown_of (cl _ (by first | (with_reducible assumption) | (with_reducible apply SlO.at; (with_reducible assumption); (repeat' (first | (with_reducible exact Below.refl _ _) | (with_reducible refine Below.alloc ?_ ?_ _) | (with_reducible refine Below.drew ?_) | (with_reducible refine below_drewN ?_ _) | (with_reducible refine Below.setCell ?_ ?_ _) | (with_reducible refine below_via ‹_› ?_ ?_) | (with_reducible refine below_grow ?_ ?_ _ _) | omega | (simp; done) | (simp; omega))); done) | (with_reducible apply SlA.at; (with_reducible assumption); (repeat' (first | (with_reducible exact Below.refl _ _) | (with_reducible refine Below.alloc ?_ ?_ _) | (with_reducible refine Below.drew ?_) | (with_reducible refine below_drewN ?_ _) | (with_reducible refine Below.setCell ?_ ?_ _) | (with_reducible refine below_via ‹_› ?_ ?_) | (with_reducible refine below_grow ?_ ?_ _ _) | omega | (simp; done) | (simp; omega))); done)) (hp1.at (by (repeat' (first | (with_reducible exact Below.refl _ _) | (with_reducible refine Below.alloc ?_ ?_ _) | (with_reducible refine Below.drew ?_) | (with_reducible refine below_drewN ?_ _) | (with_reducible refine Below.setCell ?_ ?_ _) | (with_reducible refine below_via ‹_› ?_ ?_) | (with_reducible refine below_grow ?_ ?_ _ _) | omega | (simp; done) | (simp; omega))))))))) | quiet_step ((first | (go_at_call 39; exact regrown_of (c_Decimal _ _ (by first | assumption | (unfold I64; omega)) (hp1.at (by (repeat' (first | (with_reducible exact Below.refl _ _) | (with_reducible refine Below.alloc ?_ ?_ _) | (with_reducible refine Below.drew ?_) | (with_reducible refine below_drewN ?_ _) | (with_reducible refine Below.setCell ?_ ?_ _) | (with_reducible refine below_via ‹_› ?_ ?_) | (with_reducible refine below_grow ?_ ?_ _ _) | omega | (simp; done) | (simp; omega))))))) | (go_at_call 40; exact regrown_of (cl _ (by first | (with_reducible assumption) | (with_reducible apply SlO.at; (with_reducible assumption); (repeat' (first | (with_reducible exact Below.refl _ _) | (with_reducible refine Below.alloc ?_ ?_ _) | (with_reducible refine Below.drew ?_) | (with_reducible refine below_drewN ?_ _) | (with_reducible refine Below.setCell ?_ ?_ _) | (with_reducible refine below_via ‹_› ?_ ?_) | (with_reducible refine below_grow ?_ ?_ _ _) | omega | (simp; done) | (simp; omega))); done) | (with_reducible apply SlA.at; (with_reducible assumption); (repeat' (first | (with_reducible exact Below.refl _ _) | (with_reducible refine Below.alloc ?_ ?_ _) | (with_reducible refine Below.drew ?_) | (with_reducible refine below_drewN ?_ _) | (with_reducible refine Below.setCell ?_ ?_ _) | (with_reducible refine below_via ‹_› ?_ ?_) | (with_reducible refine below_grow ?_ ?_ _ _) | omega | (simp; done) | (simp; omega))); done)) (hp1.at (by (repeat' (first | (with_reducible exact Below.refl _ _) | (with_reducible refine Below.alloc ?_ ?_ _) | (with_reducible refine Below.drew ?_) | (with_reducible refine below_drewN ?_ _) | (with_reducible refine Below.setCell ?_ ?_ _) | (with_reducible refine below_via ‹_› ?_ ?_) | (with_reducible refine below_grow ?_ ?_ _ _) | omega | (simp; done) | (simp; omega))))))))))); refine wpQuiet_nil ?_; intro w1 hw'; have hb := below_of_regrown hw'; clear hw'; obtain ⟨hc, hf⟩ := bcell hb; have hz := hb.size; (try simp at hz); (try have hz0 : ∀ b, b < w.heap.size → b < w1.heap.size := fun b h => by omega); (try have hz1 : w.heap.size < w1.heap.size := by omega); (try have hz2 : w.heap.size + 1 < w1.heap.size := by omega); (try have hz3 : w.heap.size + 2 < w1.heap.size := by omega))
    go_wp2_with fail
    go_ret
    rw [HR.out, tideT, ← HL.out, ← HC.out]
    exact ⟨rfl, by (repeat' (first | (with_reducible exact Below.refl _ _) | (with_reducible refine Below.alloc ?_ ?_ _) | (with_reducible refine Below.drew ?_) | (with_reducible refine below_drewN ?_ _) | (with_reducible refine Below.setCell ?_ ?_ _) | (with_reducible refine below_via ‹_› ?_ ?_) | (with_reducible refine below_grow ?_ ?_ _ _) | omega | (simp; done) | (simp; omega)))⟩
end Go.Proofs.YtabbhlehbhadiaaGreatDoor
