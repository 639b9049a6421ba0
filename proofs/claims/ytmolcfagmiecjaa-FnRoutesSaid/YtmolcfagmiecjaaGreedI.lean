/- The greedy voyage: the program's side. -/
import Derived.Test.YtmolcfagmiecjaaSeek
import Derived.Test.YtmolcfagmiecjaaFresh
namespace Go.Proofs.Ytmolcfagmiecjaa
open Go.RowKit Go.Sort
set_option maxRecDepth 100000

theorem nilI (w : World) : SlA w 0 1 encI (.slice none 0 0) ([] : List Int) := .inl ⟨none, 0, rfl, rfl, Nat.zero_le _⟩
/-- the end of the last call of an order with one work more -/
theorem endK_some {a b x y t : Int} {ws : List WorkD} {os : List Int} {k : Int} (hh : hasB os k = false) (h0 : voyC a b x y ws (os ++ [k]) t = 0) (hm : ordB ws.length (os ++ [k]) = true) :
    ∃ cs E, voyL a b x y ws (os ++ [k]) t = cs ∧ endK a b x y ws t os k = some E ∧ cs.length = os.length + 1 ∧ ∀ i, (hi : i < cs.length) → i + 1 = cs.length → cs[i].fEnd = E := by
  obtain ⟨h1, -⟩ := voyL_get h0 hm
  simp only [List.length_append, List.length_singleton] at h1
  refine ⟨_, _, rfl, by rw [endK, hh, if_neg (by decide), if_pos h0, List.getLast?_eq_getElem?, List.getElem?_eq_getElem (by omega)], h1, fun i hi e => ?_⟩
  have : i = (voyL a b x y ws (os ++ [k]) t).length - 1 := by omega
  subst this; rfl
theorem endK_late {a b x y t : Int} {ws : List WorkD} {os : List Int} {k : Int} (h0 : voyC a b x y ws (os ++ [k]) t ≠ 0) : endK a b x y ws t os k = none := by
  rw [endK, if_neg h0]; split <;> rfl
theorem endK_has {a b x y t : Int} {ws : List WorkD} {os : List Int} {k : Int} (h0 : hasB os k = true) : endK a b x y ws t os k = none := by rw [endK, if_pos h0]
theorem FineO.ord {a ld bx bY t : Int} {ws : List WorkD} {os : List Int} (h : FineO a ld bx bY t ws os) : ordB ws.length os = true := by obtain ⟨_, _, _, _, g⟩ := h; exact g.ord
theorem FineO.more {a ld bx bY t : Int} {ws : List WorkD} {os : List Int} (h : FineO a ld bx bY t ws os) {k : Nat} (hk : k < ws.length) (hh : hasB os k = false) : ordB ws.length (os ++ [(k : Int)]) = true := ordB_snoc h.ord (by omega) (by omega) hh
theorem FineO.bd {a ld bx bY t : Int} {ws : List WorkD} {os : List Int} (h : FineO a ld bx bY t ws os) (hw : worksB ws = true) {k : Nat} {e : Int} (hk : k < ws.length) (he : endK a ld bx bY ws t os k = some e) : 0 ≤ e ∧ e ≤ 4320 := by
  obtain ⟨_, _, _, _, g⟩ := h; rw [g.eq] at he; exact nextE_bd hw (by omega) (by omega) he
set_option maxHeartbeats 4000000 in
theorem c_impl_GreedyVoyage (s : ByteArray) (a b c x y : Int) (v : Value) (ws : List WorkD) (t : Int) (w : World) (hs : s.size ≤ maxLen) (h : SlA w 0 7 encWork v ws) (hok : ∀ x ∈ ws, okWork x) :
    Calls Try.prog 35 #[.agg #[.string s, .int .i64 a, .int .i64 b, .int .i64 c], .agg #[.int .i64 x, .int .i64 y], v, .int .i64 t] w fun e w' => OrderCode w w' (grL s a b c x y ws t) (askN s a b c x y ws t) e := by
  have hnil := nilI w
  by_cases h0 : askC s a b c x y ws [] t = 0
  case neg =>
    have hne : (askC s a b c x y ws [] t != 0) = true := by simpa using h0
    have HL := hid (show grL s a b c x y ws t = [] ∧ askN s a b c x y ws t = askC s a b c x y ws [] t by simp [grL, askN, h0])
    clear h0
    go_enter Try.func35, Try.ntmps35
    go_wp2_with (first | (go_at_call 65; refine (c_voyageCode _ _ _ _ _ _ _ _ _ _ _ _ (by assumption) (by first | (with_reducible assumption) | (with_reducible apply SlO.at; (with_reducible assumption); (repeat' (first | (with_reducible exact Below.refl _ _) | (with_reducible refine Below.alloc ?_ ?_ _) | (with_reducible refine Below.drew ?_) | (with_reducible refine below_drewN ?_ _) | (with_reducible refine Below.setCell ?_ ?_ _) | (with_reducible refine below_via ‹_› ?_ ?_) | (with_reducible refine below_grow ?_ ?_ _ _) | omega | (simp; done) | (simp; omega))); done) | (with_reducible apply SlA.at; (with_reducible assumption); (repeat' (first | (with_reducible exact Below.refl _ _) | (with_reducible refine Below.alloc ?_ ?_ _) | (with_reducible refine Below.drew ?_) | (with_reducible refine below_drewN ?_ _) | (with_reducible refine Below.setCell ?_ ?_ _) | (with_reducible refine below_via ‹_› ?_ ?_) | (with_reducible refine below_grow ?_ ?_ _ _) | omega | (simp; done) | (simp; omega))); done)) (by assumption) (by first | (with_reducible assumption) | (with_reducible apply SlO.at; (with_reducible assumption); (repeat' (first | (with_reducible exact Below.refl _ _) | (with_reducible refine Below.alloc ?_ ?_ _) | (with_reducible refine Below.drew ?_) | (with_reducible refine below_drewN ?_ _) | (with_reducible refine Below.setCell ?_ ?_ _) | (with_reducible refine below_via ‹_› ?_ ?_) | (with_reducible refine below_grow ?_ ?_ _ _) | omega | (simp; done) | (simp; omega))); done) | (with_reducible apply SlA.at; (with_reducible assumption); (repeat' (first | (with_reducible exact Below.refl _ _) | (with_reducible refine Below.alloc ?_ ?_ _) | (with_reducible refine Below.drew ?_) | (with_reducible refine below_drewN ?_ _) | (with_reducible refine Below.setCell ?_ ?_ _) | (with_reducible refine below_via ‹_› ?_ ?_) | (with_reducible refine below_grow ?_ ?_ _ _) | omega | (simp; done) | (simp; omega))); done))).mono ?_; rintro e w1 ⟨rfl, hb⟩; obtain ⟨hc, hf⟩ := bcell hb; have hz := hb.size; (try simp at hz); (try have hz0 : ∀ b, b < w.heap.size → b < w1.heap.size := fun b h => by omega); (try have hz1 : w.heap.size < w1.heap.size := by omega); (try have hz2 : w.heap.size + 1 < w1.heap.size := by omega); (try have hz3 : w.heap.size + 2 < w1.heap.size := by omega)))
    go_ret2
    rw [HL.out.2]
    exact orderCode_none (by (repeat' (first | (with_reducible exact Below.refl _ _) | (with_reducible refine Below.alloc ?_ ?_ _) | (with_reducible refine Below.drew ?_) | (with_reducible refine below_drewN ?_ _) | (with_reducible refine Below.setCell ?_ ?_ _) | (with_reducible refine below_via ‹_› ?_ ?_) | (with_reducible refine below_grow ?_ ?_ _ _) | omega | (simp; done) | (simp; omega)))) HL.out.1
  obtain ⟨e1, e2, e3, hw, e5, e6, -⟩ := askC_ship h0
  obtain ⟨l1, l2⟩ : 0 ≤ b ∧ b ≤ 1000 := by have := shipB_true (askC_load h0).1; omega
  have h12 := (works_all hw).1
  have HAK := hid (show askN s a b c x y ws t = 0 from h0)
  have H0 := hid h0
  clear h0
  obtain ⟨i0, hi, iz0, iz1, iz2⟩ := info_parts info_Int64
  have H := h
  obtain ⟨ad, cp, hvf⟩ := h.form
  subst hvf
  clear h
  go_enter Try.func35, Try.ntmps35
  go_wp2_with (first | (go_at_call 65; refine (c_voyageCode _ _ _ _ _ _ _ _ _ _ _ _ (by assumption) (by first | (with_reducible assumption) | (with_reducible apply SlO.at; (with_reducible assumption); (repeat' (first | (with_reducible exact Below.refl _ _) | (with_reducible refine Below.alloc ?_ ?_ _) | (with_reducible refine Below.drew ?_) | (with_reducible refine below_drewN ?_ _) | (with_reducible refine Below.setCell ?_ ?_ _) | (with_reducible refine below_via ‹_› ?_ ?_) | (with_reducible refine below_grow ?_ ?_ _ _) | omega | (simp; done) | (simp; omega))); done) | (with_reducible apply SlA.at; (with_reducible assumption); (repeat' (first | (with_reducible exact Below.refl _ _) | (with_reducible refine Below.alloc ?_ ?_ _) | (with_reducible refine Below.drew ?_) | (with_reducible refine below_drewN ?_ _) | (with_reducible refine Below.setCell ?_ ?_ _) | (with_reducible refine below_via ‹_› ?_ ?_) | (with_reducible refine below_grow ?_ ?_ _ _) | omega | (simp; done) | (simp; omega))); done)) (by assumption) (by first | (with_reducible assumption) | (with_reducible apply SlO.at; (with_reducible assumption); (repeat' (first | (with_reducible exact Below.refl _ _) | (with_reducible refine Below.alloc ?_ ?_ _) | (with_reducible refine Below.drew ?_) | (with_reducible refine below_drewN ?_ _) | (with_reducible refine Below.setCell ?_ ?_ _) | (with_reducible refine below_via ‹_› ?_ ?_) | (with_reducible refine below_grow ?_ ?_ _ _) | omega | (simp; done) | (simp; omega))); done) | (with_reducible apply SlA.at; (with_reducible assumption); (repeat' (first | (with_reducible exact Below.refl _ _) | (with_reducible refine Below.alloc ?_ ?_ _) | (with_reducible refine Below.drew ?_) | (with_reducible refine below_drewN ?_ _) | (with_reducible refine Below.setCell ?_ ?_ _) | (with_reducible refine below_via ‹_› ?_ ?_) | (with_reducible refine below_grow ?_ ?_ _ _) | omega | (simp; done) | (simp; omega))); done))).mono ?_; rintro e w1 ⟨rfl, hb⟩; obtain ⟨hc, hf⟩ := bcell hb; have hz := hb.size; (try simp at hz); (try have hz0 : ∀ b, b < w.heap.size → b < w1.heap.size := fun b h => by omega); (try have hz1 : w.heap.size < w1.heap.size := by omega); (try have hz2 : w.heap.size + 1 < w1.heap.size := by omega); (try have hz3 : w.heap.size + 2 < w1.heap.size := by omega); rw [H0.out]))
  obtain ⟨W1, hW1⟩ : ∃ z, z = w1.alloc (.cells #[] 2) := ⟨_, rfl⟩
  rw [← hW1]
  have hB0 : Below w.heap.size w w1 := by (repeat' (first | (with_reducible exact Below.refl _ _) | (with_reducible refine Below.alloc ?_ ?_ _) | (with_reducible refine Below.drew ?_) | (with_reducible refine below_drewN ?_ _) | (with_reducible refine Below.setCell ?_ ?_ _) | (with_reducible refine below_via ‹_› ?_ ?_) | (with_reducible refine below_grow ?_ ?_ _ _) | omega | (simp; done) | (simp; omega)))
  have hB1 : Below w.heap.size w W1 := by rw [hW1]; (repeat' (first | (with_reducible exact Below.refl _ _) | (with_reducible refine Below.alloc ?_ ?_ _) | (with_reducible refine Below.drew ?_) | (with_reducible refine below_drewN ?_ _) | (with_reducible refine Below.setCell ?_ ?_ _) | (with_reducible refine below_via ‹_› ?_ ?_) | (with_reducible refine below_grow ?_ ?_ _ _) | omega | (simp; done) | (simp; omega)))
  have hz1 : W1.heap.size = w1.heap.size + 1 := by rw [hW1]; simp
  have hA0 := hid (show Acc W1 w1.heap.size 2 1 encI W1 (.slice (some ⟨w1.heap.size, 0, none⟩) 0 0) ([] : List Int) from Acc.lit (α := Int) (W := W1) (w0 := w1) (e := 2) (by rw [hW1]; exact Below.refl _ _) 1 encI)
  have q0 : w1.cell? ⟨w.heap.size, 0, none⟩ = some (.string s) := by simp [*, go_sem]
  have q1 : w1.cell? ⟨w.heap.size, 0 + 1, none⟩ = some (.int .i64 a) := by simp [*, go_sem]
  have q2 : w1.cell? ⟨w.heap.size, 2, none⟩ = some (.int .i64 b) := by simp [*, go_sem]
  have q3 : w1.cell? ⟨w.heap.size, 3, none⟩ = some (.int .i64 c) := by simp [*, go_sem]
  have q4 : w1.cell? ⟨w.heap.size + 1, 0, none⟩ = some (.int .i64 x) := by simp [*, go_sem]
  have q5 : w1.cell? ⟨w.heap.size + 1, 1, none⟩ = some (.int .i64 y) := by simp [*, go_sem]
  have hzb : w.heap.size + 2 ≤ w1.heap.size := by have := hb.size; simp at this; omega
  have hB1w : Below w1.heap.size w1 W1 := by rw [hW1]; (repeat' (first | (with_reducible exact Below.refl _ _) | (with_reducible refine Below.alloc ?_ ?_ _) | (with_reducible refine Below.drew ?_) | (with_reducible refine below_drewN ?_ _) | (with_reducible refine Below.setCell ?_ ?_ _) | (with_reducible refine below_via ‹_› ?_ ?_) | (with_reducible refine below_grow ?_ ?_ _ _) | omega | (simp; done) | (simp; omega)))
  have S0 := hid (And.intro (below_cell hB1w (by omega) q0) (And.intro (below_cell hB1w (by omega) q1) (And.intro (below_cell hB1w (by omega) q2) (And.intro (below_cell hB1w (by omega) q3) (And.intro (below_cell hB1w (by omega) q4) (below_cell hB1w (by omega) q5))))))
  have hHB1 := hid hB1
  have hW1s : W1.heap.size ≤ w1.heap.size + 1 := by omega
  have hW1t : w1.heap.size < W1.heap.size := by omega
  clear hc hf hz hb q0 q1 q2 q3 q4 q5 hW1 hz1 hB1w hB0
  have hF0 : FineO a b x y t ws [] := ⟨_, _, _, _, GreedS.start l1⟩
  go_loopw [11] (fun q wr => ∃ os : List Int, Acc W1 w1.heap.size 2 1 encI wr q os ∧ FineO a b x y t ws os ∧
      greedF a b x y ws t ws.length [] = greedF a b x y ws t (ws.length - os.length) os ∧ Below w.heap.size w wr) (fun q _ => ws.length - slLen q)
  case atStart => exact ⟨[], hA0.out, hF0, rfl, hB1⟩
  case round =>
    clear hA0 hB1 hF0
    obtain ⟨os, hA, hF, hR, hB⟩ := hrel
    obtain ⟨wo, rfl⟩ : ∃ wo : World, wo = wr := ⟨_, rfl⟩
    have hS0 := hid (And.intro (hA.cellAt (by omega) (by omega) S0.out.1) (And.intro (hA.cellAt (by omega) (by omega) S0.out.2.1) (And.intro (hA.cellAt (by omega) (by omega) S0.out.2.2.1) (And.intro (hA.cellAt (by omega) (by omega) S0.out.2.2.2.1) (And.intro (hA.cellAt (by omega) (by omega) S0.out.2.2.2.2.1) (hA.cellAt (by omega) (by omega) S0.out.2.2.2.2.2))))))
    have HA := hid hA; clear hA
    have HR := hid hR; clear hR
    have HF := hid hF
    have hzr := hB.size
    have hzA := HA.out.size
    have hos : os.length ≤ ws.length := hF.len
    clear hF
    have hsl : slLen u11 = os.length := by obtain ⟨_, _, e⟩ := (HA.out.slo fun _ => rfl).1.form; rw [e]; rfl
    have HSL := hid hsl
    have HBD := hid (fun k (hk : k ≤ ws.length) => bestK_bd (f := endK a b x y ws t os) (n := k) fun j hj e he => HF.out.bd hw (by omega) he)
    have hSA : SlA wo 0 1 encI u11 os := (HA.out.slo fun _ => rfl).1.mono (Nat.zero_le _)
    clear hsl
    go_wp2
    go_loopw [12, 13, 29] (fun p e i wr => ∃ k : Nat, k ≤ ws.length ∧ i = .int .i64 k ∧ p = .int .i64 (bestK (endK a b x y ws t os) k).1 ∧ e = .int .i64 (bestK (endK a b x y ws t os) k).2 ∧ Below wo.heap.size wo wr) (fun _ _ i _ => ws.length - (intOf i).toNat)
    case atStart => exact ⟨0, Nat.zero_le _, rfl, rfl, rfl, Below.refl _ _⟩
    case round =>
      obtain ⟨k, hk, rfl, rfl, rfl, hBr⟩ := hrel
      have hbd := HBD.out k hk
      have hzr2 := hBr.size
      have hBw : Below w.heap.size w wr := hB.trans (hBr.mono hB.size)
      have hBr2 := hBr
      by_cases hlt : k < ws.length
      · have hlI : (k : Int) < ws.length := by omega
        have hSr : SlA wr 0 1 encI u11 os := hSA.at hBr
        have hSw : SlA wr 0 7 encWork (.slice ad ws.length cp) ws := H.at hBw
        cases hh : hasB os k
        · have hm := HF.out.more hlt hh
          have hml : (os ++ [(k : Int)]).length ≤ 1048576 := by simp; omega
          have cc := fun (wq : World) u h hu => c_voyage s a b c x y t (.slice ad ws.length cp) u ws (os ++ [(k : Int)]) wq e1 e2 h hw hu hm hml e3 e5 e6
          have r0 : ∀ w', Since wr w' → w'.cell? ⟨w.heap.size, 0, none⟩ = some (.string s) := fun w' hh => below_cell hh.out (by omega) (below_cell hBr (by omega) hS0.out.1)
          have r1 : ∀ w', Since wr w' → w'.cell? ⟨w.heap.size, 1, none⟩ = some (.int .i64 a) := fun w' hh => below_cell hh.out (by omega) (below_cell hBr (by omega) hS0.out.2.1)
          have r2 : ∀ w', Since wr w' → w'.cell? ⟨w.heap.size, 2, none⟩ = some (.int .i64 b) := fun w' hh => below_cell hh.out (by omega) (below_cell hBr (by omega) hS0.out.2.2.1)
          have r3 : ∀ w', Since wr w' → w'.cell? ⟨w.heap.size, 3, none⟩ = some (.int .i64 c) := fun w' hh => below_cell hh.out (by omega) (below_cell hBr (by omega) hS0.out.2.2.2.1)
          have r4 : ∀ w', Since wr w' → w'.cell? ⟨w.heap.size + 1, 0, none⟩ = some (.int .i64 x) := fun w' hh => below_cell hh.out (by omega) (below_cell hBr (by omega) hS0.out.2.2.2.2.1)
          have r5 : ∀ w', Since wr w' → w'.cell? ⟨w.heap.size + 1, 1, none⟩ = some (.int .i64 y) := fun w' hh => below_cell hh.out (by omega) (below_cell hBr (by omega) hS0.out.2.2.2.2.2)
          by_cases hq : voyC a b x y ws (os ++ [(k : Int)]) t = 0
          · obtain ⟨cs, E, hcs, he, hcl, hce⟩ := endK_some hh hq hm
            have HF1 := hid he
            have hbe := HF.out.bd hw hlt he
            have HCE := hid hce
            have HCL := hid hcl
            have hcl2 : cs.length ≤ 13 := by omega
            have hcl3 : 0 < cs.length := by omega
            simp only [hq, hcs] at cc
            clear hcs hq hm he hcl hce
            go_wp2_with (first | (go_at_call 84; refine (c_Contains _ _ _ _ (by first | (with_reducible assumption) | (with_reducible apply SlO.at; (with_reducible assumption); (repeat' (first | (with_reducible exact Below.refl _ _) | (with_reducible refine Below.alloc ?_ ?_ _) | (with_reducible refine Below.drew ?_) | (with_reducible refine below_drewN ?_ _) | (with_reducible refine Below.setCell ?_ ?_ _) | (with_reducible refine below_via ‹_› ?_ ?_) | (with_reducible refine below_grow ?_ ?_ _ _) | omega | (simp; done) | (simp; omega))); done) | (with_reducible apply SlA.at; (with_reducible assumption); (repeat' (first | (with_reducible exact Below.refl _ _) | (with_reducible refine Below.alloc ?_ ?_ _) | (with_reducible refine Below.drew ?_) | (with_reducible refine below_drewN ?_ _) | (with_reducible refine Below.setCell ?_ ?_ _) | (with_reducible refine below_via ‹_› ?_ ?_) | (with_reducible refine below_grow ?_ ?_ _ _) | omega | (simp; done) | (simp; omega))); done))).mono ?_; rintro e w' ⟨rfl, rfl⟩))
            go_region_held3 (fun w' => Since wr w') ((refine since_of ?_; (repeat' (first | (with_reducible exact Below.refl _ _) | (with_reducible refine Below.alloc ?_ ?_ _) | (with_reducible refine Below.drew ?_) | (with_reducible refine below_drewN ?_ _) | (with_reducible refine Below.setCell ?_ ?_ _) | (with_reducible refine below_via ‹_› ?_ ?_) | (with_reducible refine below_grow ?_ ?_ _ _) | omega | (simp; done) | (simp; omega))))) (first | (go_at_call 85; refine (c_clone_fresh _ _ _ (by first | (with_reducible assumption) | (with_reducible apply SlO.at; (with_reducible assumption); (repeat' (first | (with_reducible exact Below.refl _ _) | (with_reducible refine Below.alloc ?_ ?_ _) | (with_reducible refine Below.drew ?_) | (with_reducible refine below_drewN ?_ _) | (with_reducible refine Below.setCell ?_ ?_ _) | (with_reducible refine below_via ‹_› ?_ ?_) | (with_reducible refine below_grow ?_ ?_ _ _) | omega | (simp; done) | (simp; omega))); done) | (with_reducible apply SlA.at; (with_reducible assumption); (repeat' (first | (with_reducible exact Below.refl _ _) | (with_reducible refine Below.alloc ?_ ?_ _) | (with_reducible refine Below.drew ?_) | (with_reducible refine below_drewN ?_ _) | (with_reducible refine Below.setCell ?_ ?_ _) | (with_reducible refine below_via ‹_› ?_ ?_) | (with_reducible refine below_grow ?_ ?_ _ _) | omega | (simp; done) | (simp; omega))); done)) (by omega)).mono ?_; rintro e w2 ⟨u2, rfl, hb2, hF2⟩; have HF2 := hid hF2; clear hF2; have hz2 := hb2.size; (try simp at hz2)) | (refine step_fresh (by rfl) (.tmp 40) (.tmp 42) 29 (by rfl) i0 Try.underlying29 hi iz0 iz1 iz2 (k : Int) (by rfl) HF2.out (by (repeat' (first | (with_reducible exact Below.refl _ _) | (with_reducible refine Below.alloc ?_ ?_ _) | (with_reducible refine Below.drew ?_) | (with_reducible refine below_drewN ?_ _) | (with_reducible refine Below.setCell ?_ ?_ _) | (with_reducible refine below_via ‹_› ?_ ?_) | (with_reducible refine below_grow ?_ ?_ _ _) | omega | (simp; done) | (simp; omega)))) _ 1 (by rfl) (by first | (simp [go_sem]; done) | exact below_cell hb2 (by simp) (by simp [go_sem])) (by omega) ?_; intro v3 w3 hb3 hF3; have hz3 := hb3.size; (try simp at hz3)) | (go_at_call 66; refine (cc _ _ (by first | (with_reducible assumption) | (with_reducible apply SlO.at; (with_reducible assumption); (repeat' (first | (with_reducible exact Below.refl _ _) | (with_reducible refine Below.alloc ?_ ?_ _) | (with_reducible refine Below.drew ?_) | (with_reducible refine below_drewN ?_ _) | (with_reducible refine Below.setCell ?_ ?_ _) | (with_reducible refine below_via ‹_› ?_ ?_) | (with_reducible refine below_grow ?_ ?_ _ _) | omega | (simp; done) | (simp; omega))); done) | (with_reducible apply SlA.at; (with_reducible assumption); (repeat' (first | (with_reducible exact Below.refl _ _) | (with_reducible refine Below.alloc ?_ ?_ _) | (with_reducible refine Below.drew ?_) | (with_reducible refine below_drewN ?_ _) | (with_reducible refine Below.setCell ?_ ?_ _) | (with_reducible refine below_via ‹_› ?_ ?_) | (with_reducible refine below_grow ?_ ?_ _ _) | omega | (simp; done) | (simp; omega))); done)) ((hF3.below (by (repeat' (first | (with_reducible exact Below.refl _ _) | (with_reducible refine Below.alloc ?_ ?_ _) | (with_reducible refine Below.drew ?_) | (with_reducible refine below_drewN ?_ _) | (with_reducible refine Below.setCell ?_ ?_ _) | (with_reducible refine below_via ‹_› ?_ ?_) | (with_reducible refine below_grow ?_ ?_ _ _) | omega | (simp; done) | (simp; omega))))).slo.1.mono (Nat.zero_le _))).mono ?_; rintro e w4 ⟨u4, rfl, hb4, hS4⟩; have hz4 := hb4.size; (try simp at hz4)))
            all_goals
              obtain ⟨ad4, cap4, b4, o4, rfl, hm4, had4, hx4⟩ := hS4.1.uni
              obtain ⟨rfl, hl4, hlo4, hcap4, hmc4⟩ := had4 hcl3
              have c3 := hx4 (cs.length - 1) (by omega) 3 (by omega)
              simp only [encCall, List.getD_cons_zero, List.getD_cons_succ, HCE.out (cs.length - 1) (by omega) (by omega)] at c3
              have hkn : ((cs.length : Int) - 1).toNat = cs.length - 1 := by omega
              have hk1 : (1 : Int) ≤ cs.length := by omega
              have hk2 : (cs.length : Int) - 1 < cs.length := by omega
              have hB4 : Below wr.heap.size wr w4 := by (repeat' (first | (with_reducible exact Below.refl _ _) | (with_reducible refine Below.alloc ?_ ?_ _) | (with_reducible refine Below.drew ?_) | (with_reducible refine below_drewN ?_ _) | (with_reducible refine Below.setCell ?_ ?_ _) | (with_reducible refine below_via ‹_› ?_ ?_) | (with_reducible refine below_grow ?_ ?_ _ _) | omega | (simp; done) | (simp; omega)))
              clear hx4 had4 r0 r1 r2 r3 r4 r5 cc hS4 hF3
              go_wp2
              all_goals
                go_roundw
                case rel => first
                  | exact ⟨k + 1, by omega, by go_num, by rw [bestK_new HF1.out (by omega)], by rw [bestK_new HF1.out (by omega)], hBr2.trans (hB4.mono hBr2.size)⟩
                  | exact ⟨k + 1, by omega, by go_num, by rw [bestK_old HF1.out (by omega)], by rw [bestK_old HF1.out (by omega)], hBr2.trans (hB4.mono hBr2.size)⟩
                case measure => simp [intOf]; omega
          · have hne : (voyC a b x y ws (os ++ [(k : Int)]) t != 0) = true := by simpa using hq
            have HE := hid (bestK_none (f := endK a b x y ws t os) (n := k) (endK_late hq))
            clear hq hm
            go_wp2_with (first | (go_at_call 84; refine (c_Contains _ _ _ _ (by first | (with_reducible assumption) | (with_reducible apply SlO.at; (with_reducible assumption); (repeat' (first | (with_reducible exact Below.refl _ _) | (with_reducible refine Below.alloc ?_ ?_ _) | (with_reducible refine Below.drew ?_) | (with_reducible refine below_drewN ?_ _) | (with_reducible refine Below.setCell ?_ ?_ _) | (with_reducible refine below_via ‹_› ?_ ?_) | (with_reducible refine below_grow ?_ ?_ _ _) | omega | (simp; done) | (simp; omega))); done) | (with_reducible apply SlA.at; (with_reducible assumption); (repeat' (first | (with_reducible exact Below.refl _ _) | (with_reducible refine Below.alloc ?_ ?_ _) | (with_reducible refine Below.drew ?_) | (with_reducible refine below_drewN ?_ _) | (with_reducible refine Below.setCell ?_ ?_ _) | (with_reducible refine below_via ‹_› ?_ ?_) | (with_reducible refine below_grow ?_ ?_ _ _) | omega | (simp; done) | (simp; omega))); done))).mono ?_; rintro e w' ⟨rfl, rfl⟩))
            go_region_held3 (fun w' => Since wr w') ((refine since_of ?_; (repeat' (first | (with_reducible exact Below.refl _ _) | (with_reducible refine Below.alloc ?_ ?_ _) | (with_reducible refine Below.drew ?_) | (with_reducible refine below_drewN ?_ _) | (with_reducible refine Below.setCell ?_ ?_ _) | (with_reducible refine below_via ‹_› ?_ ?_) | (with_reducible refine below_grow ?_ ?_ _ _) | omega | (simp; done) | (simp; omega))))) (first | (go_at_call 85; refine (c_clone_fresh _ _ _ (by first | (with_reducible assumption) | (with_reducible apply SlO.at; (with_reducible assumption); (repeat' (first | (with_reducible exact Below.refl _ _) | (with_reducible refine Below.alloc ?_ ?_ _) | (with_reducible refine Below.drew ?_) | (with_reducible refine below_drewN ?_ _) | (with_reducible refine Below.setCell ?_ ?_ _) | (with_reducible refine below_via ‹_› ?_ ?_) | (with_reducible refine below_grow ?_ ?_ _ _) | omega | (simp; done) | (simp; omega))); done) | (with_reducible apply SlA.at; (with_reducible assumption); (repeat' (first | (with_reducible exact Below.refl _ _) | (with_reducible refine Below.alloc ?_ ?_ _) | (with_reducible refine Below.drew ?_) | (with_reducible refine below_drewN ?_ _) | (with_reducible refine Below.setCell ?_ ?_ _) | (with_reducible refine below_via ‹_› ?_ ?_) | (with_reducible refine below_grow ?_ ?_ _ _) | omega | (simp; done) | (simp; omega))); done)) (by omega)).mono ?_; rintro e w2 ⟨u2, rfl, hb2, hF2⟩; have HF2 := hid hF2; clear hF2; have hz2 := hb2.size; (try simp at hz2)) | (refine step_fresh (by rfl) (.tmp 40) (.tmp 42) 29 (by rfl) i0 Try.underlying29 hi iz0 iz1 iz2 (k : Int) (by rfl) HF2.out (by (repeat' (first | (with_reducible exact Below.refl _ _) | (with_reducible refine Below.alloc ?_ ?_ _) | (with_reducible refine Below.drew ?_) | (with_reducible refine below_drewN ?_ _) | (with_reducible refine Below.setCell ?_ ?_ _) | (with_reducible refine below_via ‹_› ?_ ?_) | (with_reducible refine below_grow ?_ ?_ _ _) | omega | (simp; done) | (simp; omega)))) _ 1 (by rfl) (by first | (simp [go_sem]; done) | exact below_cell hb2 (by simp) (by simp [go_sem])) (by omega) ?_; intro v3 w3 hb3 hF3; have hz3 := hb3.size; (try simp at hz3)) | (go_at_call 66; refine (cc _ _ (by first | (with_reducible assumption) | (with_reducible apply SlO.at; (with_reducible assumption); (repeat' (first | (with_reducible exact Below.refl _ _) | (with_reducible refine Below.alloc ?_ ?_ _) | (with_reducible refine Below.drew ?_) | (with_reducible refine below_drewN ?_ _) | (with_reducible refine Below.setCell ?_ ?_ _) | (with_reducible refine below_via ‹_› ?_ ?_) | (with_reducible refine below_grow ?_ ?_ _ _) | omega | (simp; done) | (simp; omega))); done) | (with_reducible apply SlA.at; (with_reducible assumption); (repeat' (first | (with_reducible exact Below.refl _ _) | (with_reducible refine Below.alloc ?_ ?_ _) | (with_reducible refine Below.drew ?_) | (with_reducible refine below_drewN ?_ _) | (with_reducible refine Below.setCell ?_ ?_ _) | (with_reducible refine below_via ‹_› ?_ ?_) | (with_reducible refine below_grow ?_ ?_ _ _) | omega | (simp; done) | (simp; omega))); done)) ((hF3.below (by (repeat' (first | (with_reducible exact Below.refl _ _) | (with_reducible refine Below.alloc ?_ ?_ _) | (with_reducible refine Below.drew ?_) | (with_reducible refine below_drewN ?_ _) | (with_reducible refine Below.setCell ?_ ?_ _) | (with_reducible refine below_via ‹_› ?_ ?_) | (with_reducible refine below_grow ?_ ?_ _ _) | omega | (simp; done) | (simp; omega))))).slo.1.mono (Nat.zero_le _))).mono ?_; rintro e w4 ⟨u4, rfl, hb4, hS4⟩; have hz4 := hb4.size; (try simp at hz4)))
            all_goals
              have hB4 : Below wr.heap.size wr w4 := by (repeat' (first | (with_reducible exact Below.refl _ _) | (with_reducible refine Below.alloc ?_ ?_ _) | (with_reducible refine Below.drew ?_) | (with_reducible refine below_drewN ?_ _) | (with_reducible refine Below.setCell ?_ ?_ _) | (with_reducible refine below_via ‹_› ?_ ?_) | (with_reducible refine below_grow ?_ ?_ _ _) | omega | (simp; done) | (simp; omega)))
              clear r0 r1 r2 r3 r4 r5 cc hS4 hF3
              go_wp2
              go_roundw
              case rel => exact ⟨k + 1, by omega, by go_num, by rw [HE.out], by rw [HE.out], hBr2.trans (hB4.mono hBr2.size)⟩
              case measure => simp [intOf]; omega
        · have HE := hid (bestK_none (f := endK a b x y ws t os) (n := k) (endK_has hh))
          go_wp2_with (first | (go_at_call 84; refine (c_Contains _ _ _ _ (by first | (with_reducible assumption) | (with_reducible apply SlO.at; (with_reducible assumption); (repeat' (first | (with_reducible exact Below.refl _ _) | (with_reducible refine Below.alloc ?_ ?_ _) | (with_reducible refine Below.drew ?_) | (with_reducible refine below_drewN ?_ _) | (with_reducible refine Below.setCell ?_ ?_ _) | (with_reducible refine below_via ‹_› ?_ ?_) | (with_reducible refine below_grow ?_ ?_ _ _) | omega | (simp; done) | (simp; omega))); done) | (with_reducible apply SlA.at; (with_reducible assumption); (repeat' (first | (with_reducible exact Below.refl _ _) | (with_reducible refine Below.alloc ?_ ?_ _) | (with_reducible refine Below.drew ?_) | (with_reducible refine below_drewN ?_ _) | (with_reducible refine Below.setCell ?_ ?_ _) | (with_reducible refine below_via ‹_› ?_ ?_) | (with_reducible refine below_grow ?_ ?_ _ _) | omega | (simp; done) | (simp; omega))); done))).mono ?_; rintro e w' ⟨rfl, rfl⟩))
          go_roundw
          case rel => exact ⟨k + 1, by omega, by go_num, by rw [HE.out], by rw [HE.out], by (repeat' (first | (with_reducible exact Below.refl _ _) | (with_reducible refine Below.alloc ?_ ?_ _) | (with_reducible refine Below.drew ?_) | (with_reducible refine below_drewN ?_ _) | (with_reducible refine Below.setCell ?_ ?_ _) | (with_reducible refine below_via ‹_› ?_ ?_) | (with_reducible refine below_grow ?_ ?_ _ _) | omega | (simp; done) | (simp; omega)))⟩
          case measure => simp [intOf]; omega
      · have e : k = ws.length := by omega
        subst e
        by_cases hneg : (bestK (endK a b x y ws t os) ws.length).1 < 0
        · have HE := hid (show grL s a b c x y ws t = os by
            rw [grL, if_pos HAK.out, HR.out, greedF_end hneg])
          clear hlt
          go_wp2
          go_ret2
          have hd := (HA.out.below hBr).done (fun _ => rfl) hHB1.out (by omega)
          rw [HAK.out, HE.out]
          exact ⟨_, rfl, hd.1, hd.2⟩
        · have hbd2 := HBD.out ws.length (Nat.le_refl _)
          have hs := bestK_some (f := endK a b x y ws t os) ws.length (by omega)
          obtain ⟨j, hj⟩ : ∃ j : Nat, (bestK (endK a b x y ws t os) ws.length).1 = (j : Int) := ⟨(bestK (endK a b x y ws t os) ws.length).1.toNat, by omega⟩
          have HE := hid (greedF_step (n := ws.length - os.length - 1) (os := os) (a := a) (b := b) (x := x) (y := y) (t := t) (ws := ws) hneg)
          rw [hj] at hs hbd2 HE ⊢
          have hjl : j < ws.length := by omega
          have hmay : mayB a b x y ws t os (j : Int) = true := by rw [mayB, hs.2]; rfl
          have HN := hid (HF.out.next hjl hmay)
          have HL2 := hid HN.out.len
          have HA3 := hid (HA.out.below hBr)
          have hlen2 := HL2.out
          simp only [List.length_append, List.length_singleton] at hlen2
          clear hj hneg hs hlt hmay
          go_wp2_with (at_builtin; refine wpList_push rfl (.tmp 70) (.tmp 72) 29 rfl i0 (.int .i64 0) 8 Try.underlying29 hi iz0 iz1 iz2 rfl (by decide) (fun _ => rfl) (j : Int) rfl HA3.out (by (repeat' (first | (with_reducible exact Below.refl _ _) | (with_reducible refine Below.alloc ?_ ?_ _) | (with_reducible refine Below.drew ?_) | (with_reducible refine below_drewN ?_ _) | (with_reducible refine Below.setCell ?_ ?_ _) | (with_reducible refine below_via ‹_› ?_ ?_) | (with_reducible refine below_grow ?_ ?_ _ _) | omega | (simp; done) | (simp; omega)))) 2 1 rfl (one_encI _) (by unfold maxLen; omega) (by omega) ?_; intro v4 w4 hA4)
          have hB4 : Below w.heap.size w w4 := hHB1.out.trans (hA4.keep.mono (by omega))
          go_roundw
          case rel => exact ⟨os ++ [(j : Int)], hA4, HN.out, by rw [HR.out, show ws.length - os.length = ws.length - os.length - 1 + 1 by omega, HE.out, List.length_append]; rfl, hB4⟩
          case measure =>
            obtain ⟨_, _, ev⟩ := (hA4.slo fun _ => rfl).1.form
            rw [HSL.out, ev]; simp [slLen]; omega
theorem greedF_len (a b x y : Int) (ws : List WorkD) (t : Int) : ∀ (n : Nat) (os : List Int), (greedF a b x y ws t n os).length ≤ os.length + n
  | 0, os => by simp [greedF]
  | n + 1, os => by
    by_cases h : (bestK (endK a b x y ws t os) ws.length).1 < 0
    · rw [greedF_end h]; omega
    · rw [greedF_step h]; have := greedF_len a b x y ws t n (os ++ [(bestK (endK a b x y ws t os) ws.length).1]); simp at this; omega
theorem grL_len (s : ByteArray) (a b c x y : Int) (ws : List WorkD) (t : Int) : (grL s a b c x y ws t).length ≤ ws.length := by
  unfold grL; split
  · have := greedF_len a b x y ws t ws.length []; simpa using this
  · simp
end Go.Proofs.Ytmolcfagmiecjaa
