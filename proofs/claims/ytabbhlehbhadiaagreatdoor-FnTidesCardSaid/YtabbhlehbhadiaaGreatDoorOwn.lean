/- Copies of a list of numbers, on both sides. -/
import Derived.Test.YtabbhlehbhadiaaGreatDoorPush
import Derived.Test.YtabbhlehbhadiaaGreatDoorTInt64
namespace Go.Proofs.YtabbhlehbhadiaaGreatDoor
open Go.RowKit Go.Sort
set_option maxRecDepth 100000
theorem c_clone_int64 (v : Value) (xs : List Int) (w : World) (h : SlA w 0 1 encI v xs) (hl : xs.length ≤ 1048576) :
    Calls Tryz.prog 44 #[v] w fun e w' => ∃ u, e = .returned u ∧ Below w.heap.size w w' ∧ SlO w' w.heap.size 1 encI u xs := by
  obtain ⟨i0, hi, iz0, iz1, iz2⟩ := info_parts info_Int64
  have h' := h
  obtain ⟨ad, cap, bk, off, rfl, hm, -, -⟩ := h.uni
  go_enter Tryz.func44, Tryz.ntmps44
  go_wp2_with (at_make; refine (wpList_make_own _ rfl _ _ 24 rfl w.heap.size 2 i0 _ 1 Tryz.underlying24 hi iz0 iz1 _ _ _ xs.length rfl rfl rfl (by rw [iz2]; omega) (by unfold maxLen; omega) (Nat.le_refl _) ?_))
  intro w1 hown hgr
  have HB : Below w.heap.size w w1 := (Below.refl _ _).grown hgr (Nat.le_refl _) (fun k hk => by cases hk)
  have HA := hid (Acc.made hown (.inl rfl) HB.size encI)
  have hS : SlA w1 0 1 encI _ xs := h'.at HB
  clear hown hgr h'
  go_wp2_with (at_builtin; refine wpList_pushAll rfl (.tmp 5) (.tmp 6) 24 rfl i0 (.int .i64 0) 8 Tryz.underlying24 hi iz0 iz1 iz2 rfl (by decide) (fun _ => rfl) rfl HA.out rfl hS one_encI (by unfold maxLen; simp; omega) (by simp; omega) ?_; intro v1 w1 hA1)
  go_ret
  have := hA1.done (fun _ => rfl) HB (Nat.le_refl _)
  exact ⟨_, rfl, this.1, by simpa using this.2⟩
end Go.Proofs.YtabbhlehbhadiaaGreatDoor
