/- The reference's text cut at a byte. -/
import Derived.Test.YtocpgnpdnoidnaaDoorList
import Derived.Test.YtocpgnpdnoidnaaDoorOwn
namespace Go.Proofs.YtocpgnpdnoidnaaDoor
open Go.RowKit Go.Sort
set_option linter.unusedVariables false
set_option maxRecDepth 100000

def cutB (c : UInt8) (l : List UInt8) : List ByteArray := (cutAt c l).map bs
theorem ext_bs (s : ByteArray) (f k : Nat) : s.extract f k = bs ((s.data.toList.drop f).take (k - f)) := by
  have h := Lib.extract_data s f k
  rw [← bs_self (s.extract f k)]
  congr 1
theorem data_get (s : ByteArray) (k : Nat) (h : k < s.size) : s.data.toList[k]'(by simpa using h) = s[k] := by
  rw [Array.getElem_toList]; rfl
theorem cutAt_here {c : UInt8} {l : List UInt8} {f k : Nat} (hf : f ≤ k) (hk : k < l.length) (hn : c ∉ (l.drop f).take (k - f)) (hc : l[k] = c) : cutAt c (l.drop f) = (l.drop f).take (k - f) :: cutAt c (l.drop (k + 1)) := by
  have e : l.drop f = (l.drop f).take (k - f) ++ c :: l.drop (k + 1) := by
    have h1 : (l.drop f).drop (k - f) = c :: l.drop (k + 1) := by
      rw [List.drop_drop, show f + (k - f) = k by omega, List.drop_eq_getElem_cons hk, hc]
    rw [← h1, List.take_append_drop]
  conv => lhs; rw [e]
  exact cutAt_app c _ _ hn
theorem take_more {l : List UInt8} {f k : Nat} (hf : f ≤ k) (hk : k < l.length) : (l.drop f).take (k + 1 - f) = (l.drop f).take (k - f) ++ [l[k]] := by
  rw [show k + 1 - f = (k - f) + 1 by omega, List.take_add_one, List.getElem?_drop, show f + (k - f) = k by omega, List.getElem?_eq_getElem hk]; rfl
set_option maxHeartbeats 2000000 in
theorem c_l01Split (c : UInt8) (s : ByteArray) (w : World) (hs : (s.size : Int) ≤ 1048576) :
    Calls Tryd.prog 90 #[.string s, .int .u8 (c.toNat : Int)] w fun e w' => ∃ u, e = .returned u ∧ Below w.heap.size w w' ∧ SlO w' w.heap.size 1 encT u (cutB c s.data.toList) := by
  obtain ⟨i0, hi, iz0, iz1, iz2⟩ := info_parts info_string
  obtain ⟨l, hl⟩ : ∃ l, l = s.data.toList := ⟨_, rfl⟩
  have hll : l.length = s.size := by rw [hl]; simp
  have A1 := Acc.lit (α := ByteArray) (W := w.alloc (.cells #[] 9)) (w0 := w) (e := 9) (Below.refl _ _) 1 encT
  obtain ⟨W, hW⟩ : ∃ W, W = w.alloc (.cells #[] 9) := ⟨_, rfl⟩
  rw [← hW] at A1
  have hBW : Below w.heap.size w W := by rw [hW]; exact (Below.refl _ _).alloc (Nat.le_refl _) _
  have HW := hid hW
  have HG := hid (show ∀ k (h : k < s.size) (h' : k < l.length), l[k] = s[k] from fun k h h' => by subst hl; exact data_get s k h)
  have HL := hid hl
  rw [← hl]
  clear hW hl
  go_enter Tryd.func90, Tryd.ntmps90
  go_wp2
  (try rw [← HW.out])
  go_loopw [5, 6, 7] (fun u f i wr => ∃ (k g : Nat) (ps : List (List UInt8)), k ≤ s.size ∧ g ≤ k ∧ f = .int .i64 g ∧ i = .int .i64 k ∧ c ∉ (l.drop g).take (k - g) ∧ ps ++ cutAt c (l.drop g) = cutAt c l ∧ ps.length ≤ g ∧ Acc W w.heap.size 9 1 encT wr u (ps.map bs)) (fun _ _ i _ => s.size - (intOf i).toNat)
  case atStart => exact ⟨0, 0, [], Nat.zero_le _, Nat.le_refl _, rfl, rfl, by simp, by simp, by simp, A1⟩
  case round =>
    clear A1
    obtain ⟨k, g, ps, hk, hgk, rfl, rfl, hn, hp, hpl, hA⟩ := hrel
    have hgI : (g : Int) ≤ k := by omega
    have hpl2 : (ps.map bs).length ≤ s.size := by simp; omega
    by_cases hlt : k < s.size
    · have hlI : (k : Int) < s.size := by omega
      have hkl : k < l.length := by omega
      have hlk : l[k] = s[k] := HG.out k hlt hkl
      cases hc : ((s[k].toNat : Int) == (c.toNat : Int))
      · have hne : l[k] ≠ c := by rw [hlk]; intro e; rw [e] at hc; simp at hc
        have HN := hid (show c ∉ (l.drop g).take (k + 1 - g) by
          rw [take_more hgk hkl]
          intro hm
          rcases List.mem_append.1 hm with hm | hm
          · exact hn hm
          · exact hne (List.mem_singleton.1 hm).symm)
        have HP := hid (And.intro hp hlk)
        clear hp hn hlk hne
        go_wp2
        go_roundw
        case rel => exact ⟨k + 1, g, ps, by omega, by omega, rfl, by go_num, HN.out, HP.out.1, hpl, hA⟩
        case measure => simp [intOf]; omega
      · have heq : l[k] = c := by rw [hlk]; have h1 : (s[k].toNat : Int) = (c.toNat : Int) := by simpa using hc
                                  exact UInt8.toNat_inj.1 (by omega)
        have HE := hid (show s.extract g k = bs ((l.drop g).take (k - g)) by rw [ext_bs, HL.out])
        have HP := hid (show (ps ++ [(l.drop g).take (k - g)]) ++ cutAt c (l.drop (k + 1)) = cutAt c l by rw [← hp, cutAt_here hgk hkl hn heq]; simp)
        clear hp hn heq hlk
        have hw1 : IntKind.i64.wrap ((k : Int) + 1) = (k : Int) + 1 := IntWalk.i64_in _ (by omega)
        obtain ⟨q, hq⟩ : ∃ q, q = s.extract g k := ⟨_, rfl⟩
        have HQ := hid (show (ps ++ [(l.drop g).take (k - g)]).map bs = ps.map bs ++ [q] by rw [hq, HE.out]; simp)
        have HQ2 := hid hq
        clear hq
        go_wp2_with (first | (at_builtin; rw [← HQ2.out]; (at_builtin; refine wpList_push rfl (.tmp 20) (.tmp 25) 65 rfl i0 (.string ⟨#[]⟩) 16 Tryd.underlying65 hi iz0 iz1 iz2 rfl (by decide) (fun _ => rfl) q rfl hA (by (repeat' (first | (with_reducible exact Below.refl _ _) | (with_reducible refine Below.alloc ?_ ?_ _) | (with_reducible refine Below.drew ?_) | (with_reducible refine below_drewN ?_ _) | (with_reducible refine Below.setCell ?_ ?_ _) | (with_reducible refine below_via ‹_› ?_ ?_) | (with_reducible refine below_grow ?_ ?_ _ _) | omega | (simp; done) | (simp; omega)))) 9 1 rfl (one_encT _) (by unfold maxLen; omega) (by omega) ?_; intro v1 w1 hA1)))
        go_roundw
        case rel => exact ⟨k + 1, k + 1, ps ++ [(l.drop g).take (k - g)], by omega, Nat.le_refl _, by go_num, by go_num, by simp, HP.out, by simp; omega, by rw [HQ.out]; exact hA1⟩
        case measure => simp [intOf]; omega
    · have hke : k = s.size := by omega
      have hlI : ¬ (k : Int) < s.size := by omega
      have hlen : (l.drop g).take (k - g) = l.drop g := List.take_of_length_le (by rw [List.length_drop]; omega)
      rw [hlen] at hn
      rw [cutAt_clean c _ hn] at hp
      obtain ⟨q, hq⟩ : ∃ q, q = s.extract g s.size := ⟨_, rfl⟩
      have HR := hid (show cutB c l = ps.map bs ++ [q] by
        rw [cutB, ← hp, hq, ext_bs, List.map_append, ← HL.out, List.take_of_length_le (by rw [List.length_drop]; omega)]; rfl)
      have HQ2 := hid hq
      have hgs : (g : Int) ≤ s.size := by omega
      clear hq hp hn hlen
      go_wp2_with (first | (at_builtin; rw [← HQ2.out]; (at_builtin; refine wpList_push rfl (.tmp 29) (.tmp 33) 65 rfl i0 (.string ⟨#[]⟩) 16 Tryd.underlying65 hi iz0 iz1 iz2 rfl (by decide) (fun _ => rfl) q rfl hA (by (repeat' (first | (with_reducible exact Below.refl _ _) | (with_reducible refine Below.alloc ?_ ?_ _) | (with_reducible refine Below.drew ?_) | (with_reducible refine below_drewN ?_ _) | (with_reducible refine Below.setCell ?_ ?_ _) | (with_reducible refine below_via ‹_› ?_ ?_) | (with_reducible refine below_grow ?_ ?_ _ _) | omega | (simp; done) | (simp; omega)))) 9 1 rfl (one_encT _) (by unfold maxLen; omega) (by omega) ?_; intro v2 w2 hA2)))
      go_ret
      have hD := hA2.done (fun _ => rfl) hBW (Nat.le_refl _)
      rw [HR.out]
      exact ⟨_, rfl, hD.1, hD.2⟩
end Go.Proofs.YtocpgnpdnoidnaaDoor
