/- The numeral: the reference's own loop. -/
import Derived.Test.YtabbhlehbhadiaaDoorTextP
import Derived.Test.YtabbhlehbhadiaaDoorPush
import Derived.Laws.IdiomStrings
namespace Go.Proofs.YtabbhlehbhadiaaDoor
open Go.RowKit Go.Sort
set_option linter.unusedVariables false
set_option maxRecDepth 100000

def encB (b : UInt8) : List Value := [.int .u8 (b.toNat : Int)]
theorem one_encB (y : UInt8) : ∀ u ∈ encB y, u.oneCell' = true := by intro u hu; simp only [encB, List.mem_singleton] at hu; subst hu; rfl
theorem one_uint8 (y : UInt8) : ∀ u ∈ encB y, u.oneCell' = true := one_encB y
theorem info_uint8 : (Tryd.prog.info? 5).map (fun i => (i.zero, i.size, i.bytes)) = some (some (.int .u8 0), 1, 1) := by kernel_rfl
set_option maxHeartbeats 2000000 in
theorem c_l01Dec (n : Int) (w : World) (hn : I64 n) :
    Calls Tryd.prog 20 #[.int .i64 n] w fun e w' => e = .returned (.string (decS n)) ∧ Below w.heap.size w w' := by
  by_cases h0 : n = 0
  · subst h0
    have HD := hid decS_zero
    go_enter Tryd.func20, Tryd.ntmps20
    go_wp2
    go_ret
    rw [HD.out]
    exact ⟨rfl, by (repeat' (first | (with_reducible exact Below.refl _ _) | (with_reducible refine Below.alloc ?_ ?_ _) | (with_reducible refine Below.drew ?_) | (with_reducible refine below_drewN ?_ _) | (with_reducible refine Below.setCell ?_ ?_ _) | (with_reducible refine below_via ‹_› ?_ ?_) | (with_reducible refine below_grow ?_ ?_ _ _) | omega | (simp; done) | (simp; omega)))⟩
  · obtain ⟨i0, hi, iz0, iz1, iz2⟩ := info_parts info_uint8
    have hn0 : (n == 0) = false := by simpa using h0
    have HN := hid (And.intro hn h0)
    clear hn h0
    have A1 := Acc.lit (α := UInt8) (W := w.alloc (.cells #[] 5)) (w0 := w) (e := 5) (Below.refl _ _) 1 encB
    obtain ⟨W, hW⟩ : ∃ W, W = w.alloc (.cells #[] 5) := ⟨_, rfl⟩
    rw [← hW] at A1
    have hBW : Below w.heap.size w W := by rw [hW]; exact (Below.refl _ _).alloc (Nat.le_refl _) _
    have hzW : W.heap.size = w.heap.size + 1 := by rw [hW]; simp
    have HW := hid hW
    clear hW
    go_enter Tryd.func20, Tryd.ntmps20
    go_wp2
    rw [← HW.out]
    go_loopw [3, 4] (fun u t wr => ∃ (m : Int) (ds : List UInt8), t = .int .i64 m ∧ I64 m ∧ ds ++ revD m.natAbs = revD n.natAbs ∧ ds.length ≤ 20 ∧ Acc W w.heap.size 5 1 encB wr u ds) (fun _ t _ => (intOf t).natAbs)
    case atStart => exact ⟨n, [], rfl, HN.out.1, by simp, by simp, A1⟩
    case round =>
      obtain ⟨m, ds, rfl, hm, hd, hdl, hA⟩ := hrel
      clear A1
      have HM := hid hm
      by_cases hm0 : m = 0
      · subst hm0
        have hmz : ((0 : Int) != 0) = false := rfl
        have HD := hid (show ds = revD n.natAbs by rw [← hd]; simp [revD_zero])
        clear hd hm
        have hln : ds.length ≤ 20 := hdl
        by_cases hs : n < 0
        · have hs2 : decide (n < 0) = true := by simpa using hs
          have HL := hid (show (ds ++ [(45 : UInt8)]).reverse = Lib.itoa n by rw [HD.out, ← dec_rev n HN.out.2, signL, if_pos hs])
          clear hs
          go_wp2_with (first | (at_builtin; refine wpList_push rfl (.tmp 30) (.tmp 31) 22 rfl i0 (.int .u8 0) 1 Tryd.underlying22 hi iz0 iz1 iz2 rfl (by decide) (fun _ => rfl) (45 : UInt8) rfl hA (by (repeat' (first | (with_reducible exact Below.refl _ _) | (with_reducible refine Below.alloc ?_ ?_ _) | (with_reducible refine Below.drew ?_) | (with_reducible refine below_drewN ?_ _) | (with_reducible refine Below.setCell ?_ ?_ _) | (with_reducible refine below_via ‹_› ?_ ?_) | (with_reducible refine below_grow ?_ ?_ _ _) | omega | (simp; done) | (simp; omega)))) 5 1 rfl (one_encB _) (by unfold maxLen; omega) (by omega) ?_; intro v1 w1 hA1))
          obtain ⟨L, hLL⟩ : ∃ L, L = ds ++ [(45 : UInt8)] := ⟨_, rfl⟩
          have hl20 : L.length ≤ 21 := by rw [hLL]; simp; omega
          rw [← hLL] at hA1 HL
          clear hLL
          have hSL := hA1.slo (fun _ => rfl)
          obtain ⟨wa, hwa⟩ : ∃ z, z = w1 := ⟨_, rfl⟩
          rw [← hwa] at hA1 hSL ⊢
          have hB1 : Below w.heap.size w wa := hBW.trans hA1.keep
          have hzwa := hB1.size
          clear hwa hA1
          obtain ⟨ad, cap, rfl⟩ := hSL.1.form
          have A2 := Acc.lit (α := UInt8) (W := wa.alloc (.cells #[] 5)) (w0 := wa) (e := 5) (Below.refl _ _) 1 encB
          obtain ⟨W2, hW2⟩ : ∃ W2, W2 = wa.alloc (.cells #[] 5) := ⟨_, rfl⟩
          rw [← hW2] at A2
          have hB2 : Below wa.heap.size wa W2 := by rw [hW2]; exact (Below.refl _ _).alloc (Nat.le_refl _) _
          have hW2s : wa.heap.size < W2.heap.size := by rw [hW2]; simp
          have HW2 := hid hW2
          clear hW2
          have hS2 : SlA W2 w.heap.size 1 encB (.slice ad L.length cap) L := hSL.1.at hB2
          have hne : ∀ b, (Value.slice ad L.length cap).ownBlock = some b → b ≠ wa.heap.size := fun b hb => by have := (hSL.2 b hb).1; omega
          have HS := hid (And.intro hS2 hne)
          clear hS2 hne hSL
          have hwl : IntKind.i64.wrap ((L.length : Int) - 1) = (L.length : Int) - 1 := IntWalk.i64_in _ (by omega)
          go_wp2_with fail
          rw [← HW2.out]
          (try simp only [run_len_slice, Tryd.underlying22, go_sem])
          go_wp2
          go_loopw [6, 7] (fun u t wr => ∃ k : Nat, k ≤ L.length ∧ t = .int .i64 ((L.length : Int) - 1 - k) ∧ Acc W2 wa.heap.size 5 1 encB wr u (L.reverse.take k)) (fun _ t _ => (intOf t + 1).toNat)
          case atStart => exact ⟨0, Nat.zero_le _, by simp, A2⟩
          case round =>
            clear A2
            obtain ⟨k, hk, rfl, hA⟩ := hrel
            have hrl : (L.reverse.take k).length ≤ 21 := by simp; omega
            by_cases hkl : k = L.length
            · have hge : decide ((0 : Int) ≤ (L.length : Int) - 1 - k) = false := by simp; omega
              have hD := hA.done (fun _ => rfl) hB2 (Nat.le_refl _)
              have hLp : L.reverse = Lib.itoa n := HL.out
              rw [hkl, List.take_of_length_le (by simp), hLp] at hD
              obtain ⟨ad2, cap2, hv2⟩ := hD.2.1.form
              subst hv2
              rcases hD.2.1 with ⟨a', c', e', hx', _⟩ | ⟨b', off', c', e', hp', hc', hm', hlo', hbb', hcell'⟩
              · exact absurd hx' (itoa_ne n)
              have hcv := run_convert_bytes_back (P := Tryd.prog) wr 22 9 5 ⟨b', off', none⟩ c' (Lib.itoa n) Tryd.underlying22 Tryd.underlying5 Tryd.underlying9 (fun j hj => by have := hcell' j hj 0 (by omega); rw [Addr.add_lit]; simpa [encB] using this)
              simp only [Value.slice.injEq] at e'
              obtain ⟨rfl, -, rfl⟩ := e'
              rw [hkl]
              clear hA hcell'
              have hge2 : decide ((0 : Int) ≤ (L.length : Int) - 1 - (L.length : Int)) = false := by simp; omega
              go_wp2_with fail
              go_ret
              exact ⟨rfl, hB1.trans (hD.1.mono hzwa)⟩
            · have hk1 : k < L.length := by omega
              have hge : decide ((0 : Int) ≤ (L.length : Int) - 1 - k) = true := by simp; omega
              obtain ⟨bb, off, he, hbb, hcl⟩ : ∃ bb off, (Value.slice ad L.length cap) = .slice (some ⟨bb, off, none⟩) L.length cap ∧ bb < wr.heap.size ∧ wr.cell? ⟨bb, off + (L.length - 1 - k), none⟩ = some (.int .u8 (L[L.length - 1 - k].toNat : Int)) := by
                rcases hA.sl HS.out.1 HS.out.2 with ⟨a', c', e', hx', _⟩ | ⟨b', off', c', e', hp', hc', hm', hlo', hbb', hcell'⟩
                · rw [hx'] at hk1; simp at hk1
                · simp only [Value.slice.injEq] at e'
                  obtain ⟨rfl, -, rfl⟩ := e'
                  exact ⟨b', off', rfl, hbb', by simpa [encB] using hcell' (L.length - 1 - k) (by omega) 0 (by omega)⟩
              simp only [Value.slice.injEq, and_true] at he
              subst he
              obtain ⟨q, hq⟩ : ∃ q : Nat, q = L.length - 1 - k := ⟨_, rfl⟩
              have hqi : (L.length : Int) - 1 - k = (q : Int) := by omega
              have hcl2 := hcl
              simp only [← hq] at hcl2
              have HT := hid (show L.reverse.take (k + 1) = L.reverse.take k ++ [L[q]'(by omega)] by
                rw [List.take_add_one, List.getElem?_eq_getElem (by simpa using hk1), List.getElem_reverse]
                simp [hq])
              obtain ⟨c, hc⟩ : ∃ c, c = L[q]'(by omega) := ⟨_, rfl⟩
              rw [← hc] at hcl2 HT
              have hqL : (q : Int) < L.length := by omega
              have hwq : IntKind.i64.wrap ((q : Int) - 1) = (q : Int) - 1 := IntWalk.i64_in _ (by omega)
              have HQ := hid (show (q : Int) - 1 = (L.length : Int) - 1 - ((k + 1 : Nat) : Int) by omega)
              have HK := hid (And.intro hk1 hqi)
              rw [hqi]
              clear hcl hge hqi hq hc hk hk1 hkl
              go_wp2_with (first | (at_builtin; refine wpList_push rfl (.tmp 41) (.tmp 46) 22 rfl i0 (.int .u8 0) 1 Tryd.underlying22 hi iz0 iz1 iz2 rfl (by decide) (fun _ => rfl) c rfl hA (by (repeat' (first | (with_reducible exact Below.refl _ _) | (with_reducible refine Below.alloc ?_ ?_ _) | (with_reducible refine Below.drew ?_) | (with_reducible refine below_drewN ?_ _) | (with_reducible refine Below.setCell ?_ ?_ _) | (with_reducible refine below_via ‹_› ?_ ?_) | (with_reducible refine below_grow ?_ ?_ _ _) | omega | (simp; done) | (simp; omega)))) 5 1 rfl (one_encB _) (by unfold maxLen; omega) (by omega) ?_; intro v3 w3 hA3))
              go_roundw
              case rel => exact ⟨k + 1, by have := HK.out.1; omega, by rw [HQ.out], by rw [HT.out]; exact hA3⟩
              case measure => simp [intOf]
        · have hs2 : decide (n < 0) = false := by simpa using hs
          have HL := hid (show ds.reverse = Lib.itoa n by rw [HD.out, ← dec_rev n HN.out.2, signL, if_neg hs, List.append_nil])
          clear hs
          have hA1 := hA
          clear hA
          obtain ⟨wo, rfl⟩ : ∃ wo : World, wo = wr := ⟨_, rfl⟩
          obtain ⟨L, hLL⟩ : ∃ L, L = ds := ⟨_, rfl⟩
          have hl20 : L.length ≤ 21 := by rw [hLL]; omega
          rw [← hLL] at hA1 HL
          clear hLL HD hln hdl
          have hSL := hA1.slo (fun _ => rfl)
          obtain ⟨wa, hwa⟩ : ∃ z, z = wo := ⟨_, rfl⟩
          rw [← hwa] at hA1 hSL ⊢
          have hB1 : Below w.heap.size w wa := hBW.trans hA1.keep
          have hzwa := hB1.size
          clear hwa hA1
          obtain ⟨ad, cap, rfl⟩ := hSL.1.form
          have A2 := Acc.lit (α := UInt8) (W := wa.alloc (.cells #[] 5)) (w0 := wa) (e := 5) (Below.refl _ _) 1 encB
          obtain ⟨W2, hW2⟩ : ∃ W2, W2 = wa.alloc (.cells #[] 5) := ⟨_, rfl⟩
          rw [← hW2] at A2
          have hB2 : Below wa.heap.size wa W2 := by rw [hW2]; exact (Below.refl _ _).alloc (Nat.le_refl _) _
          have hW2s : wa.heap.size < W2.heap.size := by rw [hW2]; simp
          have HW2 := hid hW2
          clear hW2
          have hS2 : SlA W2 w.heap.size 1 encB (.slice ad L.length cap) L := hSL.1.at hB2
          have hne : ∀ b, (Value.slice ad L.length cap).ownBlock = some b → b ≠ wa.heap.size := fun b hb => by have := (hSL.2 b hb).1; omega
          have HS := hid (And.intro hS2 hne)
          clear hS2 hne hSL
          have hwl : IntKind.i64.wrap ((L.length : Int) - 1) = (L.length : Int) - 1 := IntWalk.i64_in _ (by omega)
          go_wp2_with fail
          rw [← HW2.out]
          (try simp only [run_len_slice, Tryd.underlying22, go_sem])
          go_wp2
          go_loopw [6, 7] (fun u t wr => ∃ k : Nat, k ≤ L.length ∧ t = .int .i64 ((L.length : Int) - 1 - k) ∧ Acc W2 wa.heap.size 5 1 encB wr u (L.reverse.take k)) (fun _ t _ => (intOf t + 1).toNat)
          case atStart => exact ⟨0, Nat.zero_le _, by simp, A2⟩
          case round =>
            clear A2
            obtain ⟨k, hk, rfl, hA⟩ := hrel
            have hrl : (L.reverse.take k).length ≤ 21 := by simp; omega
            by_cases hkl : k = L.length
            · have hge : decide ((0 : Int) ≤ (L.length : Int) - 1 - k) = false := by simp; omega
              have hD := hA.done (fun _ => rfl) hB2 (Nat.le_refl _)
              have hLp : L.reverse = Lib.itoa n := HL.out
              rw [hkl, List.take_of_length_le (by simp), hLp] at hD
              obtain ⟨ad2, cap2, hv2⟩ := hD.2.1.form
              subst hv2
              rcases hD.2.1 with ⟨a', c', e', hx', _⟩ | ⟨b', off', c', e', hp', hc', hm', hlo', hbb', hcell'⟩
              · exact absurd hx' (itoa_ne n)
              have hcv := run_convert_bytes_back (P := Tryd.prog) wr 22 9 5 ⟨b', off', none⟩ c' (Lib.itoa n) Tryd.underlying22 Tryd.underlying5 Tryd.underlying9 (fun j hj => by have := hcell' j hj 0 (by omega); rw [Addr.add_lit]; simpa [encB] using this)
              simp only [Value.slice.injEq] at e'
              obtain ⟨rfl, -, rfl⟩ := e'
              rw [hkl]
              clear hA hcell'
              have hge2 : decide ((0 : Int) ≤ (L.length : Int) - 1 - (L.length : Int)) = false := by simp; omega
              go_wp2_with fail
              go_ret
              exact ⟨rfl, hB1.trans (hD.1.mono hzwa)⟩
            · have hk1 : k < L.length := by omega
              have hge : decide ((0 : Int) ≤ (L.length : Int) - 1 - k) = true := by simp; omega
              obtain ⟨bb, off, he, hbb, hcl⟩ : ∃ bb off, (Value.slice ad L.length cap) = .slice (some ⟨bb, off, none⟩) L.length cap ∧ bb < wr.heap.size ∧ wr.cell? ⟨bb, off + (L.length - 1 - k), none⟩ = some (.int .u8 (L[L.length - 1 - k].toNat : Int)) := by
                rcases hA.sl HS.out.1 HS.out.2 with ⟨a', c', e', hx', _⟩ | ⟨b', off', c', e', hp', hc', hm', hlo', hbb', hcell'⟩
                · rw [hx'] at hk1; simp at hk1
                · simp only [Value.slice.injEq] at e'
                  obtain ⟨rfl, -, rfl⟩ := e'
                  exact ⟨b', off', rfl, hbb', by simpa [encB] using hcell' (L.length - 1 - k) (by omega) 0 (by omega)⟩
              simp only [Value.slice.injEq, and_true] at he
              subst he
              obtain ⟨q, hq⟩ : ∃ q : Nat, q = L.length - 1 - k := ⟨_, rfl⟩
              have hqi : (L.length : Int) - 1 - k = (q : Int) := by omega
              have hcl2 := hcl
              simp only [← hq] at hcl2
              have HT := hid (show L.reverse.take (k + 1) = L.reverse.take k ++ [L[q]'(by omega)] by
                rw [List.take_add_one, List.getElem?_eq_getElem (by simpa using hk1), List.getElem_reverse]
                simp [hq])
              obtain ⟨c, hc⟩ : ∃ c, c = L[q]'(by omega) := ⟨_, rfl⟩
              rw [← hc] at hcl2 HT
              have hqL : (q : Int) < L.length := by omega
              have hwq : IntKind.i64.wrap ((q : Int) - 1) = (q : Int) - 1 := IntWalk.i64_in _ (by omega)
              have HQ := hid (show (q : Int) - 1 = (L.length : Int) - 1 - ((k + 1 : Nat) : Int) by omega)
              have HK := hid (And.intro hk1 hqi)
              rw [hqi]
              clear hcl hge hqi hq hc hk hk1 hkl
              go_wp2_with (first | (at_builtin; refine wpList_push rfl (.tmp 41) (.tmp 46) 22 rfl i0 (.int .u8 0) 1 Tryd.underlying22 hi iz0 iz1 iz2 rfl (by decide) (fun _ => rfl) c rfl hA (by (repeat' (first | (with_reducible exact Below.refl _ _) | (with_reducible refine Below.alloc ?_ ?_ _) | (with_reducible refine Below.drew ?_) | (with_reducible refine below_drewN ?_ _) | (with_reducible refine Below.setCell ?_ ?_ _) | (with_reducible refine below_via ‹_› ?_ ?_) | (with_reducible refine below_grow ?_ ?_ _ _) | omega | (simp; done) | (simp; omega)))) 5 1 rfl (one_encB _) (by unfold maxLen; omega) (by omega) ?_; intro v3 w3 hA3))
              go_roundw
              case rel => exact ⟨k + 1, by have := HK.out.1; omega, by rw [HQ.out], by rw [HT.out]; exact hA3⟩
              case measure => simp [intOf]
      · have hmz : (m != 0) = true := by simpa using hm0
        have hq10 : (m.tdiv 10).natAbs = m.natAbs / 10 := by rw [Int.natAbs_tdiv]; rfl
        have hr10 : (m.tmod 10).natAbs = m.natAbs % 10 := by rw [Int.natAbs_tmod]; rfl
        obtain ⟨d, hd10⟩ : ∃ d : Nat, d = m.natAbs % 10 := ⟨_, rfl⟩
        have hd9 : d ≤ 9 := by omega
        obtain ⟨c, hc⟩ : ∃ c : UInt8, c = UInt8.ofNat (48 + d) := ⟨_, rfl⟩
        have hcn : (48 : Int) + (d : Int) = (c.toNat : Int) := by rw [hc, UInt8.toNat_ofNat']; omega
        have hcb : (c.toNat : Int) ≤ 57 := by omega
        have HD := hid (show (ds ++ [c]) ++ revD (m.tdiv 10).natAbs = revD n.natAbs by
          rw [← hd, revD_pos (show m.natAbs ≠ 0 by omega), hc, hq10, hd10]; simp)
        have hlen : ds.length ≤ 19 := by
          have h1 := revD_len 20 n.natAbs (by have := HN.out.1; unfold I64 at this; omega)
          rw [← hd, List.length_append, revD_pos (show m.natAbs ≠ 0 by omega), List.length_cons] at h1
          omega
        have hI : I64 (m.tdiv 10) := by unfold I64 at hm ⊢; omega
        have HI := hid hI
        have hlt10 := hid (show (m.tdiv 10).natAbs < m.natAbs by omega)
        have hq : IntKind.i64.wrap (m.tdiv 10) = m.tdiv 10 := IntWalk.i64_in _ HI.out
        rw [← hd10] at hr10
        by_cases hs : m.tmod 10 < 0
        · have hs2 : decide (m.tmod 10 < 0) = true := by simpa using hs
          have hs3 : -(m.tmod 10) = (d : Int) := by omega
          clear hd hm hI hc hd10 hq10 hr10 hs
          go_wp2_with (first | (at_builtin; refine wpList_push rfl (.tmp 22) (.tmp 26) 22 rfl i0 (.int .u8 0) 1 Tryd.underlying22 hi iz0 iz1 iz2 rfl (by decide) (fun _ => rfl) c rfl hA (by (repeat' (first | (with_reducible exact Below.refl _ _) | (with_reducible refine Below.alloc ?_ ?_ _) | (with_reducible refine Below.drew ?_) | (with_reducible refine below_drewN ?_ _) | (with_reducible refine Below.setCell ?_ ?_ _) | (with_reducible refine below_via ‹_› ?_ ?_) | (with_reducible refine below_grow ?_ ?_ _ _) | omega | (simp; done) | (simp; omega)))) 5 1 rfl (one_encB _) (by unfold maxLen; omega) (by omega) ?_; intro v1 w1 hA1))
          go_roundw
          case rel => exact ⟨m.tdiv 10, ds ++ [c], rfl, HI.out, HD.out, by simp; omega, hA1⟩
          case measure => exact hlt10.out
        · have hs2 : decide (m.tmod 10 < 0) = false := by simpa using hs
          have hs3 : m.tmod 10 = (d : Int) := by omega
          clear hd hm hI hc hd10 hq10 hr10 hs
          go_wp2_with (first | (at_builtin; refine wpList_push rfl (.tmp 22) (.tmp 26) 22 rfl i0 (.int .u8 0) 1 Tryd.underlying22 hi iz0 iz1 iz2 rfl (by decide) (fun _ => rfl) c rfl hA (by (repeat' (first | (with_reducible exact Below.refl _ _) | (with_reducible refine Below.alloc ?_ ?_ _) | (with_reducible refine Below.drew ?_) | (with_reducible refine below_drewN ?_ _) | (with_reducible refine Below.setCell ?_ ?_ _) | (with_reducible refine below_via ‹_› ?_ ?_) | (with_reducible refine below_grow ?_ ?_ _ _) | omega | (simp; done) | (simp; omega)))) 5 1 rfl (one_encB _) (by unfold maxLen; omega) (by omega) ?_; intro v1 w1 hA1))
          go_roundw
          case rel => exact ⟨m.tdiv 10, ds ++ [c], rfl, HI.out, HD.out, by simp; omega, hA1⟩
          case measure => exact hlt10.out
end Go.Proofs.YtabbhlehbhadiaaDoor
