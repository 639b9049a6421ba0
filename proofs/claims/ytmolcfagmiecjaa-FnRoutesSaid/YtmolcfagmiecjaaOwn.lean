/- Copies of a list of numbers, on both sides. -/
import Derived.Test.YtmolcfagmiecjaaPush
import Derived.Test.YtmolcfagmiecjaaTInt64
namespace Go.Proofs.Ytmolcfagmiecjaa
open Go.RowKit Go.Sort
set_option maxRecDepth 100000
theorem c_l00Own (v : Value) (xs : List Int) (w : World) (h : SlA w 0 1 encI v xs) (hl : xs.length ≤ 1099511627776) :
    Calls Try.prog 112 #[v] w fun e w' => ∃ u, e = .returned u ∧ Below w.heap.size w w' ∧ SlO w' w.heap.size 1 encI u xs := by
  obtain ⟨i0, hi, iz0, iz1, iz2⟩ := info_parts info_Int64
  have hA0 := Acc.lit (α := Int) (W := w.alloc (.cells #[] 2)) (w0 := w) (e := 2) (Below.refl _ _) 1 encI
  have hS : SlA (w.alloc (.cells #[] 2)) 0 1 encI v xs := h.at (by (repeat' (first | (with_reducible exact Below.refl _ _) | (with_reducible refine Below.alloc ?_ ?_ _) | (with_reducible refine Below.drew ?_) | (with_reducible refine below_drewN ?_ _) | (with_reducible refine Below.setCell ?_ ?_ _) | (with_reducible refine below_via ‹_› ?_ ?_) | (with_reducible refine below_grow ?_ ?_ _ _) | omega | (simp; done) | (simp; omega))))
  have HB : Below w.heap.size w (w.alloc (.cells #[] 2)) := by (repeat' (first | (with_reducible exact Below.refl _ _) | (with_reducible refine Below.alloc ?_ ?_ _) | (with_reducible refine Below.drew ?_) | (with_reducible refine below_drewN ?_ _) | (with_reducible refine Below.setCell ?_ ?_ _) | (with_reducible refine below_via ‹_› ?_ ?_) | (with_reducible refine below_grow ?_ ?_ _ _) | omega | (simp; done) | (simp; omega)))
  have HA := hid hA0; clear hA0
  go_enter Try.func112, Try.ntmps112
  go_wp2_with (at_builtin; refine wpList_pushAll rfl (.tmp 3) (.tmp 4) 29 rfl i0 (.int .i64 0) 8 Try.underlying29 hi iz0 iz1 iz2 rfl (by decide) (fun _ => rfl) rfl HA.out rfl hS one_encI (by unfold maxLen; simp; omega) (by simp; omega) ?_; intro v1 w1 hA1)
  go_ret
  have := hA1.done (fun _ => rfl) HB (Nat.le_refl _)
  exact ⟨_, rfl, this.1, by simpa using this.2⟩
theorem c_clone_int64 (v : Value) (xs : List Int) (w : World) (h : SlA w 0 1 encI v xs) (hl : xs.length ≤ 1048576) :
    Calls Try.prog 85 #[v] w fun e w' => ∃ u, e = .returned u ∧ Below w.heap.size w w' ∧ SlO w' w.heap.size 1 encI u xs := by
  obtain ⟨i0, hi, iz0, iz1, iz2⟩ := info_parts info_Int64
  have h' := h
  obtain ⟨ad, cap, bk, off, rfl, hm, -, -⟩ := h.uni
  go_enter Try.func85, Try.ntmps85
  go_wp2_with (at_make; refine (wpList_make_own _ rfl _ _ 29 rfl w.heap.size 2 i0 _ 1 Try.underlying29 hi iz0 iz1 _ _ _ xs.length rfl rfl rfl (by rw [iz2]; omega) (by unfold maxLen; omega) (Nat.le_refl _) ?_))
  intro w1 hown hgr
  have HB : Below w.heap.size w w1 := (Below.refl _ _).grown hgr (Nat.le_refl _) (fun k hk => by cases hk)
  have HA := hid (Acc.made hown (.inl rfl) HB.size encI)
  have hS : SlA w1 0 1 encI _ xs := h'.at HB
  clear hown hgr h'
  go_wp2_with (at_builtin; refine wpList_pushAll rfl (.tmp 5) (.tmp 6) 29 rfl i0 (.int .i64 0) 8 Try.underlying29 hi iz0 iz1 iz2 rfl (by decide) (fun _ => rfl) rfl HA.out rfl hS one_encI (by unfold maxLen; simp; omega) (by simp; omega) ?_; intro v1 w1 hA1)
  go_ret
  have := hA1.done (fun _ => rfl) HB (Nat.le_refl _)
  exact ⟨_, rfl, this.1, by simpa using this.2⟩
end Go.Proofs.Ytmolcfagmiecjaa
