/- 'FnDamage' returns true for every input: other bytes are never read as the same items, a changed byte of a text is found by its check value, and a beginning is never enough. The listed variables are tied to the text by the given tie; no other condition. -/
import Derived.Test.YtabbhlehbhadiaaDoorDrawI
import Derived.Test.YtabbhlehbhadiaaDoorDam
import Derived.Test.YtabbhlehbhadiaaDoorArcC
import Derived.Test.YtabbhlehbhadiaaDoorB10
import Derived.Test.YtabbhlehbhadiaaDoorCardR
import Derived.Laws.IdiomStrings
import Derived.Deep.RegionHeld3
namespace Go.Proofs.YtabbhlehbhadiaaDoor.lawFnDamage
open Go.RowKit Go.Sort
set_option linter.unusedVariables false
set_option maxRecDepth 100000

theorem row_cell {w : World} {b : Nat} {cs : Array Value} {T : TypeId} {fz : Nat × Nat} (h : w.heap[b]? = some (.cells cs T fz)) {i : Nat} {v : Value} (hv : cs[i]? = some v) : w.cell? ⟨b, i, none⟩ = some v := by
  simp [World.cell?, h, hv]
theorem row_fr {w : World} {b : Nat} {cs : Array Value} {T : TypeId} {fz : Nat × Nat} (h : w.heap[b]? = some (.cells cs T fz)) {i : Nat} (hi : i < fz.1) : w.frozen? ⟨b, i, none⟩ = false := by
  simp [World.frozen?, h]; omega
theorem xor8 {a b : Nat} (ha : a < 256) (hb : b < 256) : bits .xor .u8 (a : Int) (b : Int) = ((a ^^^ b : Nat) : Int) := by
  have hx : a ^^^ b < 2 ^ 8 := Nat.xor_lt_two_pow (by omega) (by omega)
  show IntKind.u8.wrap ((BitVec.ofInt 8 (a : Int) ^^^ BitVec.ofInt 8 (b : Int)).toNat : Int) = _
  rw [BitVec.toNat_xor, BitVec.ofInt_natCast, BitVec.ofInt_natCast, BitVec.toNat_ofNat, BitVec.toNat_ofNat, Nat.mod_eq_of_lt (by omega), Nat.mod_eq_of_lt (by omega)]
  exact IntWalk.u8_in _ (by omega)
theorem back {w3 : World} {b cap P : Nat} {F : ByteArray} {c : UInt8} (hc : ∀ j (hj : j < F.data.size), w3.cell? ⟨b, j, none⟩ = some (.int .u8 (F.data[j].toNat : Int))) (hP : P < F.size) :
    (convert 22 9 (.slice (some ⟨b, 0, none⟩) F.size cap)).run Tryd.prog (w3.setCell ⟨b, P, none⟩ (.int .u8 (c.toNat : Int))).drew = .ok (.string ⟨(F.data.toList.set P c).toArray⟩) (w3.setCell ⟨b, P, none⟩ (.int .u8 (c.toNat : Int))).drew := by
  have h := run_convert_bytes_back (P := Tryd.prog) (w3.setCell ⟨b, P, none⟩ (.int .u8 (c.toNat : Int))).drew 22 9 5 ⟨b, 0, none⟩ cap (F.data.toList.set P c) Tryd.underlying22 Tryd.underlying5 Tryd.underlying9 (fun j hj => by
    have hj' : j < F.data.size := by rw [List.length_set, ba_len] at hj; exact hj
    rw [Addr.add_lit, Nat.zero_add]
    show (w3.setCell ⟨b, P, none⟩ (.int .u8 (c.toNat : Int))).cell? ⟨b, j, none⟩ = _
    by_cases e : j = P
    · subst e
      rw [cell_on (hc j hj')]; simp
    · rw [cell_off (hc j hj') (.inr e)]
      simp [List.getElem_set, Ne.symm e, e])
  rw [List.length_set, ba_len] at h
  exact h
theorem savF_le : ∀ (xs : List ItemD) (h : ByteArray), (∀ x ∈ xs, smallI x) → (savF h xs).size ≤ h.size + 2046 * xs.length ∧ h.size ≤ (savF h xs).size
  | [], h, _ => by simp [savF]
  | d :: tl, h, hs => by
    have e : savF h (d :: tl) = savF (h ++ itS d) tl := rfl
    have hd := hs d (List.mem_cons_self ..)
    unfold smallI at hd
    have h1 := savF_le tl (h ++ itS d) (fun x hx => hs x (List.mem_cons_of_mem _ hx))
    have h2 := itS_size (d := d) (by omega) (by omega)
    rw [ByteArray.size_append] at h1
    rw [e, List.length_cons]; omega
theorem saveS_le {xs : List ItemD} (h : ∀ x ∈ xs, smallI x) (hl : xs.length ≤ 41) : 1 ≤ (saveS xs).size ∧ (saveS xs).size ≤ 100000 := by
  have h1 := savF_le xs (headS xs.length) h
  have h2 := headS_size (n := xs.length) (by omega)
  have h3 : 1 ≤ (headS xs.length).size := by
    rw [headS, ByteArray.size_append]
    have e2 : (⟨#[10]⟩ : ByteArray).size = 1 := rfl
    omega
  unfold saveS; omega
theorem preI_le {xs : List ItemD} {i : Nat} (hi : i < xs.length) : preI xs i + (hdI2 xs[i]).length + xs[i].fText.size + 1 ≤ (savL xs).length := by
  have h1 := savL_pre hi
  have h2 := congrArg List.length (savL_at hi)
  rw [List.length_append, h1] at h2
  simp only [List.length_append, List.length_cons, List.length_nil, ba_len] at h2
  omega
theorem decS_len (n : Int) : (decS n).size = (Lib.itoa n).length := by rw [← ba_len, decS_list]
set_option maxHeartbeats 4000000 in
theorem walk (v0 : Value) (bs0 : List Int) (v1 : Value) (bs1 : List Int) (w : World) (h0 : SlA w 0 1 encU v0 bs0) (k0 : ∀ x ∈ bs0, 0 ≤ x ∧ x ≤ 255) (h1 : SlA w 0 1 encU v1 bs1) (k1 : ∀ x ∈ bs1, 0 ≤ x ∧ x ≤ 255) (hrd : Rd w) :
    Calls Tryd.prog 3 #[v0, v1] w fun e w' => e = .returned (.bool true) ∧ Below w.heap.size w w' := by
  obtain ⟨ad0, cp0, rfl⟩ := h0.form
  obtain ⟨ad1, cp1, rfl⟩ := h1.form
  go_enter Tryd.func3, Tryd.ntmps3
  go_wp2_with fail
  refine (c_b10Long _ _ _ _).mono ?_
  rintro e w' ⟨bb, rfl, hlen, rfl⟩
  cases bb with
  | true =>
    go_wp2_with fail
    go_ret
    exact ⟨rfl, Below.refl _ _⟩
  | false =>
  have hl0 := hlen rfl
  clear hlen
  go_wp2_with fail
  refine (c_b10Long _ _ _ _).mono ?_
  rintro e w' ⟨bb, rfl, hlen, rfl⟩
  cases bb with
  | true =>
    go_wp2_with fail
    go_ret
    exact ⟨rfl, Below.refl _ _⟩
  | false =>
  have hl1 := hlen rfl
  clear hlen
  go_wp2_with fail
  refine (c_DrawSaveItems _ bs0 _ h0 hl0 k0).mono ?_
  rintro e w1 ⟨u, xs, rfl, hb1, hS1, hxl, hsm⟩
  obtain ⟨adu, cpu, rfl⟩ := hS1.1.form
  have hz1 := hb1.size
  have hok : ∀ x ∈ xs, okItem x := fun x hx => by have := hsm x hx; unfold smallI at this; unfold okItem maxLen; omega
  go_wp2_with fail
  refine (c_spec_SaveItems _ xs _ (hS1.1.mono (Nat.zero_le _)) hok).mono ?_
  rintro e w2 ⟨rfl, hb2⟩
  have hz2 := hb2.size
  cases hv : itemsB xs with
  | false =>
    have e1 : saveC xs = 1 := by rw [saveC, hv]; rfl
    rw [e1]
    go_wp2_with fail
    go_ret
    exact ⟨rfl, hb1.trans (hb2.mono hz1)⟩
  | true =>
  have e1 : saveC xs = 0 := by rw [saveC, hv]; rfl
  have e2 : saveR xs = saveS xs := by rw [saveR, hv]; rfl
  rw [e1, e2]
  obtain ⟨F, hF⟩ : ∃ F, F = saveS xs := ⟨_, rfl⟩
  rw [← hF]
  have hFs := saveS_le hsm hxl
  rw [← hF] at hFs
  have HF := hid hF
  clear hF e1 e2 hok
  have hcv := fun w => run_bytes_of_string (P := Tryd.prog) w 9 22 5 F Tryd.underlying9 Tryd.underlying22 Tryd.underlying5
  obtain ⟨cap, hcap⟩ : ∃ cap, cap = grownCap w2 F.size 0 5 := ⟨_, rfl⟩
  obtain ⟨w3, hw3⟩ : ∃ w3, w3 = w2.drew.alloc (.cells (bytesRow F cap) 5 ((bytesRow F cap).size, (bytesRow F cap).size + 1)) := ⟨_, rfl⟩
  have hcv2 := hcv w2
  rw [← hcap, ← hw3] at hcv2
  have hb3 : Below w2.heap.size w2 w3 := by rw [hw3]; exact (below_drewN (Below.refl _ _) 1).alloc (Nat.le_refl _) _
  have HW3 := hid hw3
  have HC := hid hcap
  clear hcv hw3 hcap
  have B3 : Below w.heap.size w w3 := (hb1.trans (hb2.mono hz1)).trans (hb3.mono (by omega))
  go_wp2_with fail
  refine (c_b10Wide _ bs1 0 F.size _ (h1.below B3 (Nat.le_refl _)) k1 (by omega) (by omega) (by omega) (by omega)).mono ?_
  rintro e w' ⟨p, rfl, p0, p1, rfl⟩
  have p2 := p1 (by omega)
  obtain ⟨P, rfl⟩ : ∃ P : Nat, p = P := ⟨p.toNat, by omega⟩
  clear p1 hcv2
  have hP : P < F.size := by omega
  have hrow : w3.heap[w2.heap.size]? = some (.cells (bytesRow F cap) 5 ((bytesRow F cap).size, (bytesRow F cap).size + 1)) := by rw [HW3.out]; exact heap_alloc_new _ _
  have q0 := row_cell hrow (bytesRow_at F cap P hP)
  have f0 := row_fr hrow (i := P) (by show P < (bytesRow F cap).size; have : F.data.size = F.size := rfl; simp [bytesRow]; omega)
  have l3 : w2.heap.size < w3.heap.size := (Array.getElem?_eq_some_iff.1 hrow).1
  obtain ⟨y, y0, y1, hca⟩ := c_b10AtV _ bs1 2 255 w3 (h1.below B3 (Nat.le_refl _)) k1 (by omega) (by omega) (by omega) (by omega)
  have e64 : IntKind.i64.wrap (1 + y) = 1 + y := by simp [IntKind.wrap, IntKind.signed, IntKind.bits]; omega
  have e8 : IntKind.u8.wrap (1 + y) = 1 + y := IntWalk.u8_in _ (by omega)
  obtain ⟨c, hcd⟩ : ∃ c : UInt8, c = UInt8.ofNat (F.data[P].toNat ^^^ (y.toNat + 1)) := ⟨_, rfl⟩
  have hx8 : bits .xor .u8 (F.data[P].toNat : Int) (1 + y) = (c.toNat : Int) := by
    have hlt : F.data[P].toNat < 256 := F.data[P].toNat_lt
    have hx : F.data[P].toNat ^^^ (y.toNat + 1) < 2 ^ 8 := Nat.xor_lt_two_pow (by omega) (by omega)
    rw [show 1 + y = ((y.toNat + 1 : Nat) : Int) by omega, xor8 hlt (by omega), hcd, UInt8.toNat_ofNat', Nat.mod_eq_of_lt (by omega)]
  have hbk := back (w3 := w3) (b := w2.heap.size) (cap := cap) (c := c) (fun j hj => row_cell hrow (bytesRow_at F cap j hj)) hP
  have HCD := hid hcd
  clear hcd
  have HR := hid hrow
  clear hrow
  go_wp2_with fail
  (refine wp_region_still_tail 10 (by kernel_rfl) (by kernel_rfl) ?_; simp only [List.take_succ_cons, List.take_zero, List.drop_succ_cons, List.drop_zero]; (repeat (first | still_step | (still_call ((hca _ (by (repeat' (first | (with_reducible exact Below.refl _ _) | (with_reducible refine Below.alloc ?_ ?_ _) | (with_reducible refine Below.drew ?_) | (with_reducible refine below_drewN ?_ _) | (with_reducible refine Below.setCell ?_ ?_ _) | (with_reducible refine below_via ‹_› ?_ ?_) | (with_reducible refine below_grow ?_ ?_ _ _) | omega | (simp; done) | (simp; omega))))).mono fun _ _ h => h)))); (try refine wpStill_nil ?_); change wpList _ _ _ _ _ (World.drew _))
  go_wp2_with fail
  have hGs : (((⟨(F.data.toList.set P c).toArray⟩ : ByteArray).size : Nat) : Int) ≤ 1048576 := by
    rw [← ba_len, List.length_set, ba_len]; omega
  have B4 : Below w.heap.size w (w3.setCell ⟨w2.heap.size, P, none⟩ (.int .u8 (c.toNat : Int))).drew := below_drewN (((Kept.refl (fun b => b = w2.heap.size) w3).set ⟨w2.heap.size, P, none⟩ _ rfl |>.below (B := w.heap.size) (by omega) (fun k hk => by omega)) |> B3.trans) 1
  have B34 : Below w2.heap.size w3 (w3.setCell ⟨w2.heap.size, P, none⟩ (.int .u8 (c.toNat : Int))).drew := below_drewN ((Below.refl w2.heap.size w3).setCell (p := ⟨w2.heap.size, P, none⟩) (Nat.le_refl _) _) 1
  obtain ⟨w4, hw4⟩ : ∃ w4, w4 = (w3.setCell ⟨w2.heap.size, P, none⟩ (.int .u8 (c.toNat : Int))).drew := ⟨_, rfl⟩
  rw [← hw4] at B4 B34 ⊢
  clear hbk hw4
  refine (c_impl_LoadItems _ w4 hGs (hrd.at B4)).mono ?_
  rintro e w5 ⟨u5, rfl, hb5, hS5⟩
  obtain ⟨cd5, hcd5⟩ : ∃ k, k = loadC (F.data.toList.set P c) := ⟨_, rfl⟩
  obtain ⟨ys5, hys5⟩ : ∃ k, k = loadR (F.data.toList.set P c) := ⟨_, rfl⟩
  have HG : (⟨(F.data.toList.set P c).toArray⟩ : ByteArray).data.toList = F.data.toList.set P c := by simp
  rw [HG, ← hcd5]
  rw [HG, ← hys5] at hS5
  have H5 := hid (And.intro hcd5 hys5)
  clear hcd5 hys5 HG hGs
  have hz4 := B4.size
  have hz5 := hb5.size
  have B5 : Below w.heap.size w w5 := B4.trans (hb5.mono hz4)
  go_wp2_with fail
  have hFl : F.data.toList = savL xs := by rw [HF.out, saveS_list]
  have hpl : P < (savL xs).length := by rw [← hFl, ba_len]; exact hP
  have HF' := hid (show F.size = (savL xs).length by rw [← hFl, ba_len])
  have hcne : (savL xs)[P]? ≠ some c := by
    have hP' : P < F.data.toList.length := by rw [ba_len]; exact hP
    rw [← hFl, List.getElem?_eq_getElem hP']
    intro e
    have e2 : F.data[P].toNat = c.toNat := by injection e with e; rw [← e]; simp
    have hlt : F.data[P].toNat < 256 := F.data[P].toNat_lt
    have hx : F.data[P].toNat ^^^ (y.toNat + 1) < 2 ^ 8 := Nat.xor_lt_two_pow (by omega) (by omega)
    rw [HCD.out, UInt8.toNat_ofNat', Nat.mod_eq_of_lt (by omega)] at e2
    exact xor_ne _ _ (by omega) e2.symm
  have D := damage_law hv hpl hcne
  rw [← hFl, ← H5.out.1, ← H5.out.2] at D
  have HD := hid D
  have hEs : (((F.extract 0 P).size : Nat) : Int) ≤ 1048576 := by rw [ByteArray.size_extract]; omega
  have HE : (F.extract 0 P).data.toList = F.data.toList.take P := by simp [ByteArray.data_extract]
  refine (c_impl_LoadItems _ w5 hEs (hrd.at B5)).mono ?_
  rintro e w6 ⟨u6, rfl, hb6, hS6⟩
  rw [HE] at hS6 ⊢
  rw [D.2.2.1] at hS6
  have hc6 := D.2.1
  obtain ⟨cd6, hcd6⟩ : ∃ k, k = loadC (F.data.toList.take P) := ⟨_, rfl⟩
  rw [← hcd6] at hc6 ⊢
  clear hcd6 D hEs HE hFl hpl hcne
  have hz6 := hb6.size
  have B6 : Below w.heap.size w w6 := B5.trans (hb6.mono (by omega))
  obtain ⟨ad6, cp6, rfl⟩ := hS6.1.form
  have S5 : SlA w6 0 2 encItem u5 ys5 := hS5.at hb6
  have hz34 := B34.size
  have hz23 := hb3.size
  have S1 : SlA w6 0 2 encItem (.slice adu xs.length cpu) xs := hS1.at (((hb2.trans (hb3.mono hz2)).trans (B34.mono (by omega))).trans ((hb5.mono (by omega)).trans (hb6.mono (by omega))))
  by_cases h5 : cd5 = 0
  · go_wp2_with fail
    refine (c_impl_SameItems u5 _ ys5 xs w6 S5 S1).mono ?_
    rintro e w7 ⟨rfl, hb7⟩
    have hsf : sameL itemE ys5 xs = false := by
      cases hq : sameL itemE ys5 xs
      · rfl
      · exact absurd ⟨h5, hq⟩ HD.out.1
    rw [hsf]
    have B7 : Below w.heap.size w w7 := B6.trans (hb7.mono (by have := B6.size; omega))
    have S7 := S1.at hb7
    go_wp2_with fail
    refine (c_spec_Decimal (xs.length : Int) w7 (by unfold I64; omega)).mono ?_
    rintro e w8 ⟨rfl, hb8⟩
    have hz7 := B7.size
    have hz8 := hb8.size
    have B8 : Below w.heap.size w w8 := B7.trans (hb8.mono (by omega))
    have S8 := S7.at hb8
    have hp0 := preI_zero xs
    rw [← decS_len] at hp0
    have hsz0 := decS_size (n := (xs.length : Int)) (by unfold I64; omega)
    go_wp2_with fail
    go_loopw [14, 15] (fun t i wr => ∃ k : Nat, k ≤ xs.length ∧ i = .int .i64 k ∧ t = .int .i64 (preI xs k : Int) ∧ Below w8.heap.size w8 wr) (fun _ i _ => xs.length - (intOf i).toNat)
    case atStart => exact ⟨0, Nat.zero_le _, rfl, by rw [hp0]; go_num, by (repeat' (first | (with_reducible exact Below.refl _ _) | (with_reducible refine Below.alloc ?_ ?_ _) | (with_reducible refine Below.drew ?_) | (with_reducible refine below_drewN ?_ _) | (with_reducible refine Below.setCell ?_ ?_ _) | (with_reducible refine below_via ‹_› ?_ ?_) | (with_reducible refine below_grow ?_ ?_ _ _) | omega | (simp; done) | (simp; omega)))⟩
    case round =>
      obtain ⟨k, hk, rfl, rfl, hB⟩ := hrel
      have hzr := hB.size
      have HBW := hid (B8.trans (hB.mono (by omega)))
      by_cases hlt : k < xs.length
      · have hlI : (k : Int) < xs.length := by omega
        obtain ⟨_, _, bu, ou, hu, hmu, hadu, hxu⟩ := S8.uni
        injection hu with e1 e2 e3
        subst e1 e3
        obtain ⟨rfl, hbb, -, hcc, hmc⟩ := hadu (by omega)
        have g0 := (hB.cell (p := ⟨bu, ou + k * 2 + 0, none⟩) hbb).trans (hxu k hlt 0 (by omega))
        have g1 := (hB.cell (p := ⟨bu, ou + k * 2 + 1, none⟩) hbb).trans (hxu k hlt 1 (by omega))
        have hbr : bu < wr.heap.size := by omega
        simp only [encItem, List.getD_cons_zero, List.getD_cons_succ, Nat.add_zero] at g0 g1
        have hsk := hsm _ (List.getElem_mem hlt)
        unfold smallI at hsk
        have hnx := preI_succ hlt
        have hle := preI_le hlt
        have hhd := hdI2_len xs[k]
        have hD4 := HD.out.2.2.2 k hlt
        rw [← HF'.out] at hle
        rw [← decS_len, ← decS_len] at hhd
        obtain ⟨y, hy⟩ : ∃ y, y = xs[k].fKey := ⟨_, rfl⟩
        obtain ⟨t, ht⟩ : ∃ t, t = xs[k].fText := ⟨_, rfl⟩
        obtain ⟨c2, hc⟩ : ∃ c, c = chkV xs[k].fKey xs[k].fText := ⟨_, rfl⟩
        have hcI : I64 c2 := by rw [hc]; exact chkV_i64 _ _
        have cr : ∀ w', Calls Tryd.prog 12 #[.string (y ++ (⟨#[32]⟩ : ByteArray) ++ t), .int .i64 65535] w' fun e w'' => e = .returned (.int .i64 c2) ∧ Below w'.heap.size w' w'' := fun w' => by
          have := c_spec_Crc16 (y ++ (⟨#[32]⟩ : ByteArray) ++ t) w' (by rw [ByteArray.size_append, ByteArray.size_append, hy, ht]; have e1 : (⟨#[32]⟩ : ByteArray).size = 1 := rfl; omega)
          rw [hc, hy.symm, ht.symm]; exact this
        rw [← hc, ← hy, ← ht] at hhd
        rw [← hy] at g0 hsk
        rw [← ht] at g1 hsk hnx hD4 hle
        have htI : I64 (t.size : Int) := by unfold I64; omega
        have z1 := decS_size htI
        have z2 := decS_size hcI
        obtain ⟨r1, r1'⟩ := big_no (n := y.size) (by omega)
        obtain ⟨r2, r2'⟩ := big_no (n := y.size + 1) (by omega)
        obtain ⟨r3, r3'⟩ := big_no (n := y.size + 1 + t.size) (by omega)
        obtain ⟨pk, hpk⟩ : ∃ p, p = preI xs k := ⟨_, rfl⟩
        obtain ⟨pn, hpn⟩ : ∃ p, p = preI xs (k + 1) := ⟨_, rfl⟩
        obtain ⟨hd, hhd0⟩ : ∃ p, p = (hdI2 xs[k]).length := ⟨_, rfl⟩
        rw [← hpk] at hnx hle hD4 ⊢
        rw [← hpn] at hnx
        rw [← hhd0] at hnx hle hD4 hhd
        have HPN := hid hpn
        clear hy ht hc hxu hadu hpn hpk hhd0
        by_cases a1 : ¬ (pk + hd ≤ P)
        · skip
          clear hD4
          go_wp2
          have G0 := cellr g0
          have G1 := cellr g1
          (refine wp_region_quiet_below (by kernel_rfl) (by kernel_rfl) ?_; (repeat (first | go_big_quiet_step ((first | (go_at_call 12; exact regrown_of (cr _)))) | quiet_step ((first | (go_at_call 12; exact regrown_of (cr _)))))); refine wpQuiet_nil ?_; intro w1 hw'; have hb := below_of_regrown hw'; clear hw'; obtain ⟨hc, hf⟩ := bcell hb; have hz := hb.size; (try simp at hz); (try have hz0 : ∀ b, b < w.heap.size → b < w1.heap.size := fun b h => by omega); (try have hz1 : w.heap.size < w1.heap.size := by omega); (try have hz2 : w.heap.size + 1 < w1.heap.size := by omega); (try have hz3 : w.heap.size + 2 < w1.heap.size := by omega))
          have hbr1 : bu < w1.heap.size := by have := hb.size; omega
          have g0' := below_cell hb hbr g0
          have G2 := cellr g0'
          go_wp2
          (refine wp_region_quiet_below (by kernel_rfl) (by kernel_rfl) ?_; (repeat (first | go_big_quiet_step ((first | (go_at_call 11; exact regrown_of (c_spec_Decimal _ _ (by first | assumption | (unfold I64; omega)))))) | quiet_step ((first | (go_at_call 11; exact regrown_of (c_spec_Decimal _ _ (by first | assumption | (unfold I64; omega)))))))); refine wpQuiet_nil ?_; intro w1 hw'; have hb := below_of_regrown hw'; clear hw'; obtain ⟨hc, hf⟩ := bcell hb; have hz := hb.size; (try simp at hz); (try have hz0 : ∀ b, b < w.heap.size → b < w1.heap.size := fun b h => by omega); (try have hz1 : w.heap.size < w1.heap.size := by omega); (try have hz2 : w.heap.size + 1 < w1.heap.size := by omega); (try have hz3 : w.heap.size + 2 < w1.heap.size := by omega))
          go_wp2
          go_roundw
          case rel => exact ⟨k + 1, by omega, by go_num, by rw [← HPN.out, hnx]; go_num, by (repeat' (first | (with_reducible exact Below.refl _ _) | (with_reducible refine Below.alloc ?_ ?_ _) | (with_reducible refine Below.drew ?_) | (with_reducible refine below_drewN ?_ _) | (with_reducible refine Below.setCell ?_ ?_ _) | (with_reducible refine below_via ‹_› ?_ ?_) | (with_reducible refine below_grow ?_ ?_ _ _) | omega | (simp; done) | (simp; omega)))⟩
          case measure => simp [intOf]; omega
        · by_cases a2 : ¬ (P < pk + hd + t.size)
          · skip
            clear hD4
            go_wp2
            have G0 := cellr g0
            have G1 := cellr g1
            (refine wp_region_quiet_below (by kernel_rfl) (by kernel_rfl) ?_; (repeat (first | go_big_quiet_step ((first | (go_at_call 12; exact regrown_of (cr _)))) | quiet_step ((first | (go_at_call 12; exact regrown_of (cr _)))))); refine wpQuiet_nil ?_; intro w1 hw'; have hb := below_of_regrown hw'; clear hw'; obtain ⟨hc, hf⟩ := bcell hb; have hz := hb.size; (try simp at hz); (try have hz0 : ∀ b, b < w.heap.size → b < w1.heap.size := fun b h => by omega); (try have hz1 : w.heap.size < w1.heap.size := by omega); (try have hz2 : w.heap.size + 1 < w1.heap.size := by omega); (try have hz3 : w.heap.size + 2 < w1.heap.size := by omega))
            have hbr1 : bu < w1.heap.size := by have := hb.size; omega
            have g0' := below_cell hb hbr g0
            have G2 := cellr g0'
            go_wp2
            (refine wp_region_quiet_below (by kernel_rfl) (by kernel_rfl) ?_; (repeat (first | go_big_quiet_step ((first | (go_at_call 11; exact regrown_of (c_spec_Decimal _ _ (by first | assumption | (unfold I64; omega)))))) | quiet_step ((first | (go_at_call 11; exact regrown_of (c_spec_Decimal _ _ (by first | assumption | (unfold I64; omega)))))))); refine wpQuiet_nil ?_; intro w1 hw'; have hb := below_of_regrown hw'; clear hw'; obtain ⟨hc, hf⟩ := bcell hb; have hz := hb.size; (try simp at hz); (try have hz0 : ∀ b, b < w.heap.size → b < w1.heap.size := fun b h => by omega); (try have hz1 : w.heap.size < w1.heap.size := by omega); (try have hz2 : w.heap.size + 1 < w1.heap.size := by omega); (try have hz3 : w.heap.size + 2 < w1.heap.size := by omega))
            go_wp2
            go_roundw
            case rel => exact ⟨k + 1, by omega, by go_num, by rw [← HPN.out, hnx]; go_num, by (repeat' (first | (with_reducible exact Below.refl _ _) | (with_reducible refine Below.alloc ?_ ?_ _) | (with_reducible refine Below.drew ?_) | (with_reducible refine below_drewN ?_ _) | (with_reducible refine Below.setCell ?_ ?_ _) | (with_reducible refine below_via ‹_› ?_ ?_) | (with_reducible refine below_grow ?_ ?_ _ _) | omega | (simp; done) | (simp; omega)))⟩
            case measure => simp [intOf]; omega
          · have h10 := hid (hD4 (by omega) (by omega))
            exact absurd h10.out (by omega)
--XX dround+2
      · have hlI : ¬ (k : Int) < xs.length := by omega
        go_wp2
        go_ret
        exact ⟨rfl, HBW.out⟩
  · have B7 := B6
    have S7 := S1
    go_wp2_with fail
    refine (c_spec_Decimal (xs.length : Int) w6 (by unfold I64; omega)).mono ?_
    rintro e w8 ⟨rfl, hb8⟩
    have hz7 := B7.size
    have hz8 := hb8.size
    have B8 : Below w.heap.size w w8 := B7.trans (hb8.mono (by omega))
    have S8 := S7.at hb8
    have hp0 := preI_zero xs
    rw [← decS_len] at hp0
    have hsz0 := decS_size (n := (xs.length : Int)) (by unfold I64; omega)
    go_wp2_with fail
    go_loopw [14, 15] (fun t i wr => ∃ k : Nat, k ≤ xs.length ∧ i = .int .i64 k ∧ t = .int .i64 (preI xs k : Int) ∧ Below w8.heap.size w8 wr) (fun _ i _ => xs.length - (intOf i).toNat)
    case atStart => exact ⟨0, Nat.zero_le _, rfl, by rw [hp0]; go_num, by (repeat' (first | (with_reducible exact Below.refl _ _) | (with_reducible refine Below.alloc ?_ ?_ _) | (with_reducible refine Below.drew ?_) | (with_reducible refine below_drewN ?_ _) | (with_reducible refine Below.setCell ?_ ?_ _) | (with_reducible refine below_via ‹_› ?_ ?_) | (with_reducible refine below_grow ?_ ?_ _ _) | omega | (simp; done) | (simp; omega)))⟩
    case round =>
      obtain ⟨k, hk, rfl, rfl, hB⟩ := hrel
      have hzr := hB.size
      have HBW := hid (B8.trans (hB.mono (by omega)))
      by_cases hlt : k < xs.length
      · have hlI : (k : Int) < xs.length := by omega
        obtain ⟨_, _, bu, ou, hu, hmu, hadu, hxu⟩ := S8.uni
        injection hu with e1 e2 e3
        subst e1 e3
        obtain ⟨rfl, hbb, -, hcc, hmc⟩ := hadu (by omega)
        have g0 := (hB.cell (p := ⟨bu, ou + k * 2 + 0, none⟩) hbb).trans (hxu k hlt 0 (by omega))
        have g1 := (hB.cell (p := ⟨bu, ou + k * 2 + 1, none⟩) hbb).trans (hxu k hlt 1 (by omega))
        have hbr : bu < wr.heap.size := by omega
        simp only [encItem, List.getD_cons_zero, List.getD_cons_succ, Nat.add_zero] at g0 g1
        have hsk := hsm _ (List.getElem_mem hlt)
        unfold smallI at hsk
        have hnx := preI_succ hlt
        have hle := preI_le hlt
        have hhd := hdI2_len xs[k]
        have hD4 := HD.out.2.2.2 k hlt
        rw [← HF'.out] at hle
        rw [← decS_len, ← decS_len] at hhd
        obtain ⟨y, hy⟩ : ∃ y, y = xs[k].fKey := ⟨_, rfl⟩
        obtain ⟨t, ht⟩ : ∃ t, t = xs[k].fText := ⟨_, rfl⟩
        obtain ⟨c2, hc⟩ : ∃ c, c = chkV xs[k].fKey xs[k].fText := ⟨_, rfl⟩
        have hcI : I64 c2 := by rw [hc]; exact chkV_i64 _ _
        have cr : ∀ w', Calls Tryd.prog 12 #[.string (y ++ (⟨#[32]⟩ : ByteArray) ++ t), .int .i64 65535] w' fun e w'' => e = .returned (.int .i64 c2) ∧ Below w'.heap.size w' w'' := fun w' => by
          have := c_spec_Crc16 (y ++ (⟨#[32]⟩ : ByteArray) ++ t) w' (by rw [ByteArray.size_append, ByteArray.size_append, hy, ht]; have e1 : (⟨#[32]⟩ : ByteArray).size = 1 := rfl; omega)
          rw [hc, hy.symm, ht.symm]; exact this
        rw [← hc, ← hy, ← ht] at hhd
        rw [← hy] at g0 hsk
        rw [← ht] at g1 hsk hnx hD4 hle
        have htI : I64 (t.size : Int) := by unfold I64; omega
        have z1 := decS_size htI
        have z2 := decS_size hcI
        obtain ⟨r1, r1'⟩ := big_no (n := y.size) (by omega)
        obtain ⟨r2, r2'⟩ := big_no (n := y.size + 1) (by omega)
        obtain ⟨r3, r3'⟩ := big_no (n := y.size + 1 + t.size) (by omega)
        obtain ⟨pk, hpk⟩ : ∃ p, p = preI xs k := ⟨_, rfl⟩
        obtain ⟨pn, hpn⟩ : ∃ p, p = preI xs (k + 1) := ⟨_, rfl⟩
        obtain ⟨hd, hhd0⟩ : ∃ p, p = (hdI2 xs[k]).length := ⟨_, rfl⟩
        rw [← hpk] at hnx hle hD4 ⊢
        rw [← hpn] at hnx
        rw [← hhd0] at hnx hle hD4 hhd
        have HPN := hid hpn
        clear hy ht hc hxu hadu hpn hpk hhd0
        by_cases a1 : ¬ (pk + hd ≤ P)
        · skip
          clear hD4
          go_wp2
          have G0 := cellr g0
          have G1 := cellr g1
          (refine wp_region_quiet_below (by kernel_rfl) (by kernel_rfl) ?_; (repeat (first | go_big_quiet_step ((first | (go_at_call 12; exact regrown_of (cr _)))) | quiet_step ((first | (go_at_call 12; exact regrown_of (cr _)))))); refine wpQuiet_nil ?_; intro w1 hw'; have hb := below_of_regrown hw'; clear hw'; obtain ⟨hc, hf⟩ := bcell hb; have hz := hb.size; (try simp at hz); (try have hz0 : ∀ b, b < w.heap.size → b < w1.heap.size := fun b h => by omega); (try have hz1 : w.heap.size < w1.heap.size := by omega); (try have hz2 : w.heap.size + 1 < w1.heap.size := by omega); (try have hz3 : w.heap.size + 2 < w1.heap.size := by omega))
          have hbr1 : bu < w1.heap.size := by have := hb.size; omega
          have g0' := below_cell hb hbr g0
          have G2 := cellr g0'
          go_wp2
          (refine wp_region_quiet_below (by kernel_rfl) (by kernel_rfl) ?_; (repeat (first | go_big_quiet_step ((first | (go_at_call 11; exact regrown_of (c_spec_Decimal _ _ (by first | assumption | (unfold I64; omega)))))) | quiet_step ((first | (go_at_call 11; exact regrown_of (c_spec_Decimal _ _ (by first | assumption | (unfold I64; omega)))))))); refine wpQuiet_nil ?_; intro w1 hw'; have hb := below_of_regrown hw'; clear hw'; obtain ⟨hc, hf⟩ := bcell hb; have hz := hb.size; (try simp at hz); (try have hz0 : ∀ b, b < w.heap.size → b < w1.heap.size := fun b h => by omega); (try have hz1 : w.heap.size < w1.heap.size := by omega); (try have hz2 : w.heap.size + 1 < w1.heap.size := by omega); (try have hz3 : w.heap.size + 2 < w1.heap.size := by omega))
          go_wp2
          go_roundw
          case rel => exact ⟨k + 1, by omega, by go_num, by rw [← HPN.out, hnx]; go_num, by (repeat' (first | (with_reducible exact Below.refl _ _) | (with_reducible refine Below.alloc ?_ ?_ _) | (with_reducible refine Below.drew ?_) | (with_reducible refine below_drewN ?_ _) | (with_reducible refine Below.setCell ?_ ?_ _) | (with_reducible refine below_via ‹_› ?_ ?_) | (with_reducible refine below_grow ?_ ?_ _ _) | omega | (simp; done) | (simp; omega)))⟩
          case measure => simp [intOf]; omega
        · by_cases a2 : ¬ (P < pk + hd + t.size)
          · skip
            clear hD4
            go_wp2
            have G0 := cellr g0
            have G1 := cellr g1
            (refine wp_region_quiet_below (by kernel_rfl) (by kernel_rfl) ?_; (repeat (first | go_big_quiet_step ((first | (go_at_call 12; exact regrown_of (cr _)))) | quiet_step ((first | (go_at_call 12; exact regrown_of (cr _)))))); refine wpQuiet_nil ?_; intro w1 hw'; have hb := below_of_regrown hw'; clear hw'; obtain ⟨hc, hf⟩ := bcell hb; have hz := hb.size; (try simp at hz); (try have hz0 : ∀ b, b < w.heap.size → b < w1.heap.size := fun b h => by omega); (try have hz1 : w.heap.size < w1.heap.size := by omega); (try have hz2 : w.heap.size + 1 < w1.heap.size := by omega); (try have hz3 : w.heap.size + 2 < w1.heap.size := by omega))
            have hbr1 : bu < w1.heap.size := by have := hb.size; omega
            have g0' := below_cell hb hbr g0
            have G2 := cellr g0'
            go_wp2
            (refine wp_region_quiet_below (by kernel_rfl) (by kernel_rfl) ?_; (repeat (first | go_big_quiet_step ((first | (go_at_call 11; exact regrown_of (c_spec_Decimal _ _ (by first | assumption | (unfold I64; omega)))))) | quiet_step ((first | (go_at_call 11; exact regrown_of (c_spec_Decimal _ _ (by first | assumption | (unfold I64; omega)))))))); refine wpQuiet_nil ?_; intro w1 hw'; have hb := below_of_regrown hw'; clear hw'; obtain ⟨hc, hf⟩ := bcell hb; have hz := hb.size; (try simp at hz); (try have hz0 : ∀ b, b < w.heap.size → b < w1.heap.size := fun b h => by omega); (try have hz1 : w.heap.size < w1.heap.size := by omega); (try have hz2 : w.heap.size + 1 < w1.heap.size := by omega); (try have hz3 : w.heap.size + 2 < w1.heap.size := by omega))
            go_wp2
            go_roundw
            case rel => exact ⟨k + 1, by omega, by go_num, by rw [← HPN.out, hnx]; go_num, by (repeat' (first | (with_reducible exact Below.refl _ _) | (with_reducible refine Below.alloc ?_ ?_ _) | (with_reducible refine Below.drew ?_) | (with_reducible refine below_drewN ?_ _) | (with_reducible refine Below.setCell ?_ ?_ _) | (with_reducible refine below_via ‹_› ?_ ?_) | (with_reducible refine below_grow ?_ ?_ _ _) | omega | (simp; done) | (simp; omega)))⟩
            case measure => simp [intOf]; omega
          · have h10 := hid (hD4 (by omega) (by omega))
            have h10b : (cd5 != 10) = false := (by rw [h10.out]; rfl)
            clear hD4
            go_wp2
            have G0 := cellr g0
            have G1 := cellr g1
            (refine wp_region_quiet_below (by kernel_rfl) (by kernel_rfl) ?_; (repeat (first | go_big_quiet_step ((first | (go_at_call 12; exact regrown_of (cr _)))) | quiet_step ((first | (go_at_call 12; exact regrown_of (cr _)))))); refine wpQuiet_nil ?_; intro w1 hw'; have hb := below_of_regrown hw'; clear hw'; obtain ⟨hc, hf⟩ := bcell hb; have hz := hb.size; (try simp at hz); (try have hz0 : ∀ b, b < w.heap.size → b < w1.heap.size := fun b h => by omega); (try have hz1 : w.heap.size < w1.heap.size := by omega); (try have hz2 : w.heap.size + 1 < w1.heap.size := by omega); (try have hz3 : w.heap.size + 2 < w1.heap.size := by omega))
            have hbr1 : bu < w1.heap.size := by have := hb.size; omega
            have g0' := below_cell hb hbr g0
            have G2 := cellr g0'
            go_wp2
            (refine wp_region_quiet_below (by kernel_rfl) (by kernel_rfl) ?_; (repeat (first | go_big_quiet_step ((first | (go_at_call 11; exact regrown_of (c_spec_Decimal _ _ (by first | assumption | (unfold I64; omega)))))) | quiet_step ((first | (go_at_call 11; exact regrown_of (c_spec_Decimal _ _ (by first | assumption | (unfold I64; omega)))))))); refine wpQuiet_nil ?_; intro w1 hw'; have hb := below_of_regrown hw'; clear hw'; obtain ⟨hc, hf⟩ := bcell hb; have hz := hb.size; (try simp at hz); (try have hz0 : ∀ b, b < w.heap.size → b < w1.heap.size := fun b h => by omega); (try have hz1 : w.heap.size < w1.heap.size := by omega); (try have hz2 : w.heap.size + 1 < w1.heap.size := by omega); (try have hz3 : w.heap.size + 2 < w1.heap.size := by omega))
            go_wp2
            go_roundw
            case rel => exact ⟨k + 1, by omega, by go_num, by rw [← HPN.out, hnx]; go_num, by (repeat' (first | (with_reducible exact Below.refl _ _) | (with_reducible refine Below.alloc ?_ ?_ _) | (with_reducible refine Below.drew ?_) | (with_reducible refine below_drewN ?_ _) | (with_reducible refine Below.setCell ?_ ?_ _) | (with_reducible refine below_via ‹_› ?_ ?_) | (with_reducible refine below_grow ?_ ?_ _ _) | omega | (simp; done) | (simp; omega)))⟩
            case measure => simp [intOf]; omega
      · have hlI : ¬ (k : Int) < xs.length := by omega
        go_wp2
        go_ret
        exact ⟨rfl, HBW.out⟩

open Go.ChangeShapes Go.WideShapes Go.ChangeAt
theorem own : ownKnob Tryd.prog.godebug = none := by kernel_rfl
theorem laidOut : laidOutB Tryd.prog = true := by kernel_rfl

set_option maxRecDepth 100000 in
theorem lifted (os : Os) (started : os.Started) (H : Type) (enc : TypeId × Value → H) :
    ReturnsInHanded {} Tryd.checked os 3 .any (fun w args => (Rows.fnDamageSpec.pre enc Tryd.prog Tryd.f3 Rows.fnDamageRow.domain false w args ∧ laidMetH Tryd.prog Rows.fnDamageRow.laid w) ∧ sizedMet enc Tryd.prog Tryd.f3 (OpenSpec.ofChange Rows.fnDamageSpec) false w args)
      (Rows.fnDamageSpec.post enc Tryd.prog Tryd.f3 false true false false) := by
  refine returnsInHanded_of_change_shaped_and (C := Tryd.checked) (X := fun w _ => laidMetH Tryd.prog Rows.fnDamageRow.laid w) (fun _ _ _ hh h => h.of_heap hh) own started (by kernel_rfl) Tryd.func3
    (ChangeSpec.witness_shaped (enc := enc) (C := Tryd.checked) (os := os) (X := fun w _ => laidMetH Tryd.prog Rows.fnDamageRow.laid w) false (World.laidAll Tryd.prog os Rows.fnDamageRow.laid) #[.slice none 0 0, .slice none 0 0] 8 (World.laidAll_os _ _ _)
      (World.shaped_of_ZipB (by kernel_rfl) (by kernel_rfl)) (by kernel_rfl) (by kernel_rfl) (by kernel_rfl)
      (by rw [MakeChecks.laidMetH_plain _ _ _ (by kernel_rfl)]; exact laidMet_laidAll _ (by kernel_rfl) (by kernel_rfl))) ?_
  intro W base args ds gs before hval0 hW hcnd _ hL hsh _
  rw [MakeChecks.laidMetH_plain _ _ _ (by kernel_rfl)] at hL
  have hRd : Rd W := rd_of_met hL hsh
  have hval : ∀ (j : Nat) t v, Tryd.f3.params[j]? = some t → args[j]? = some v → Value.okWide Tryd.prog W .any base t v := hval0
  have hW' := hW
  obtain ⟨p, q, hA0, hV, rfl, hfz, hnd⟩ := hW
  have hA : DataW.TrodAll enc Tryd.prog W 0 (fun _ => true) true Tryd.f3.params.toList args.toList ds p := hA0
  rw [Tryd.params3] at hA hval
  obtain ⟨u0, vs0, e0, ds0, p0, q0, hargs, rfl, rfl, t0, r0⟩ := trodAll_cons hA
  obtain ⟨u1, vs1, e1, ds1, p1, q1, rfl, rfl, rfl, t1, r1⟩ := trodAll_cons r0
  obtain ⟨rfl, rfl, rfl⟩ := trodAll_nil r1
  obtain rfl : args = #[u0, u1] := by cases args; simp_all
  obtain ⟨rfl, rfl⟩ := trodVars_none hV
  have t0' := t0
  have lt0 : ∀ x ∈ p0, x.block < W.heap.size := by obtain ⟨m, hm⟩ := t0'; exact DataW.trod_lt m _ _ _ hm
  obtain ⟨xs0, h0, k0⟩ := open_U8S (hval 0 22 u0 rfl rfl) t0
  have t1' := t1
  have lt1 : ∀ x ∈ p1, x.block < W.heap.size := by obtain ⟨m, hm⟩ := t1'; exact DataW.trod_lt m _ _ _ hm
  obtain ⟨xs1, h1, k1⟩ := open_U8S (hval 1 22 u1 rfl rfl) t1
  clear hA0 hval0
  refine (walk u0 xs0 u1 xs1 W h0 k0 h1 k1 hRd).mono fun e W' ⟨he, bel⟩ => ?_
  subst he
  exact ⟨_, rfl, _, _, _, [], _, [], hW', trodAll_mk1 (shut_bool Tryd.underlying4 _), (trodAll_cons_mk (Below.trod laidOut (by kernel_rfl) (of_decide_eq_true (by kernel_rfl)) t0' bel lt0) (trodAll_cons_mk (Below.trod laidOut (by kernel_rfl) (of_decide_eq_true (by kernel_rfl)) t1' bel lt1) trodAll_mk0)), rfl, bel.frame _, fun h => by cases h⟩

theorem cf_inPlace : (Rows.fnDamageRow.inPlace == Tryd.prog.inPlace 3) = true := by kernel_rfl
theorem cf_unfollowed : (Rows.fnDamageRow.unfollowed == Tryd.prog.unfollowed 3) = true := by kernel_rfl
theorem cf_recurses : (Rows.fnDamageRow.recurses == Tryd.prog.recurses 3) = true := by kernel_rfl
theorem cf_named : (Rows.fnDamageRow.named == Tryd.prog.varsNamed 3) = true := by kernel_rfl
theorem cf_lifted : (Rows.fnDamageRow.lifted == Tryd.prog.liftsFinal) = true := pf_lifted
theorem cf_plainKeys : (Rows.fnDamageRow.plainKeys == Tryd.prog.plainKeys) = true := pf_plainKeys
set_option maxRecDepth 100000 in
theorem closed : joinedFacts Tryd.prog 3 Tryd.f3 Rows.fnDamageSpec Rows.fnDamageRow = true := by
  simp only [joinedFacts, cf_inPlace, cf_unfollowed, cf_recurses, cf_named, cf_lifted, cf_plainKeys, pf_stopsHeard, pf_mayEnter, pf_laidOut, pf_mapsRowed, Bool.and_true]
  kernel_rfl
theorem holds : Rows.FnDamageSaid :=
  OpenClaim.holds_of_wide 3 Tryd.f3 rfl rfl rfl rfl rfl rfl rfl ⟨rfl, rfl, rfl, rfl, rfl⟩ rfl rfl rfl rfl rfl (by kernel_rfl) Tryd.func3 closed
    (of_decide_eq_true (by kernel_rfl)) (by unfold Func.isWrapper; first | (rw [if_pos (by decide +kernel)]; kernel_rfl) | (rw [if_neg (by decide +kernel)]; exact ⟨rfl, rfl⟩))
    (fun os started H enc _ => lifted os started H enc)
theorem proved : Rows.FnDamageCardSaid :=
  Claim7.holds_tied_plain_at .later [] _ true _ true holds (fun _ h => by cases h) (by kernel_rfl) (fun _ h => by cases h) fnDamage_row_tie rfl ⟨rfl, rfl⟩ (by kernel_rfl) rfl
    (fun f fn hf hfn => by
      obtain rfl : f = 3 := Option.some.inj ((show Tryd.prog.funcNamed Rows.fnDamageRow.func = some 3 by kernel_rfl).symm.trans hf) |>.symm
      obtain rfl : fn = Tryd.f3 := (Option.some.inj (Tryd.func3.symm.trans hfn)).symm
      exact ⟨by kernel_rfl, fun j t ht => by
        rw [Tryd.params3] at ht
        have hm : t ∈ [22, 22] := by simpa using Array.mem_of_getElem? ht
        have hall : ([22, 22].all fun u => !Tryd.prog.wantsStandIn u) = true := by kernel_rfl
        exact (show Tryd.prog.wantsStandIn t = false by simpa using List.all_eq_true.1 hall t hm)⟩)
    (by kernel_rfl)
#print axioms proved

end Go.Proofs.YtabbhlehbhadiaaDoor.lawFnDamage
