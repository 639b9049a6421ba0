/- The program's reading of a number. -/
import Derived.Test.YtocpgnpdnoidnaaDoorNum
import Derived.Test.YtocpgnpdnoidnaaDoorShelfR
namespace Go.Proofs.YtocpgnpdnoidnaaDoor
open Go.RowKit Go.Sort
set_option linter.unusedVariables false
set_option maxRecDepth 100000

/-- what the library reads of its own variables -/
structure Rd (w : World) : Prop where
  pow : Pow w
  mx : ∃ m, w.cell? ⟨0, 0, none⟩ = some (.int .i64 m)
  syn : ∃ ev, w.cell? ⟨2, 0, none⟩ = some ev ∧ (ev = .nilIface ∨ ∃ te pe, ev = .iface te pe)
  rng : ∃ ev, w.cell? ⟨3, 0, none⟩ = some ev ∧ (ev = .nilIface ∨ ∃ te pe, ev = .iface te pe)
theorem Rd.at {w w' : World} (h : Rd w) (hb : Below w.heap.size w w') : Rd w' := by
  have keep : ∀ {g : Nat} {v : Value}, w.cell? ⟨g, 0, none⟩ = some v → w'.cell? ⟨g, 0, none⟩ = some v := fun h => below_cell hb (block_lt_of_cell h) h
  obtain ⟨m, hm⟩ := h.mx
  obtain ⟨e1, h1, h1'⟩ := h.syn
  obtain ⟨e2, h2, h2'⟩ := h.rng
  exact ⟨h.pow.at hb, ⟨m, keep hm⟩, ⟨e1, keep h1, h1'⟩, ⟨e2, keep h2, h2'⟩⟩
theorem c_ParseInt (s : ByteArray) (w : World) (hs : (s.size : Int) ≤ 1048576) (hr : Rd w) :
    Calls Tryd.prog 87 #[.string s, .int .i64 10, .int .i64 64] w fun e w' =>
      (∃ v, Lib.parseIntB 64 s.data.toList = .ok v ∧ e = .returned (.tuple #[.int .i64 v, .nilIface]) ∧ Below w.heap.size w w') ∨
      (∃ n T p, (∀ v, Lib.parseIntB 64 s.data.toList ≠ .ok v) ∧ e = .returned (.tuple #[.int .i64 n, .iface T p]) ∧ Below w.heap.size w w') := by
  obtain ⟨e1, h1, h1'⟩ := hr.syn
  obtain ⟨e2, h2, h2'⟩ := hr.rng
  cases h : Lib.parseIntB 64 s.data.toList
  · rename_i v
    refine (Tryd.strconv_ParseInt_10_at64_ok s (by omega) v h w).mono fun e w' ⟨he, hw⟩ => .inl ⟨v, rfl, he, ?_⟩
    rcases hw with rfl | ⟨t, rfl⟩
    · exact Below.refl _ _
    · exact Joins.below_bytesWorld _ w _ t (Nat.le_refl _)
  · refine (Any.strconv_ParseInt_10_at64_syntax Tryd.laysC174 s (by omega) h e1 w h1 h1').mono fun e w' ⟨N, he, _, _, hb⟩ => .inr ⟨_, _, _, fun v hv => (by cases hv), he, hb⟩
  · refine (Any.strconv_ParseInt_10_at64_range Tryd.laysC174 s (by omega) h e2 w h2 h2').mono fun e w' ⟨N, he, _, _, hb⟩ => .inr ⟨_, _, _, fun v hv => (by cases hv), he, hb⟩
theorem trim_len (l : List UInt8) : ((⟨(Lib.trimPrefix l [45]).toArray⟩ : ByteArray).size : Int) = ((Lib.trimPrefix l [45]).length : Int) := by simp [ByteArray.size]
theorem readD_long {l : List UInt8} (h : 18 < (Lib.trimPrefix l [45]).length) : numL l = none := by rw [← readL_num, readL, if_pos h]
theorem readD_bad {l : List UInt8} (h : ∀ v, Lib.parseIntB 64 l ≠ .ok v) : numL l = none := by
  rw [← readL_num, readL]
  split
  · rfl
  · split
    · rename_i v hv; exact absurd hv (h v)
    · rfl
theorem readD_ok {l : List UInt8} {v : Int} (h0 : ¬ 18 < (Lib.trimPrefix l [45]).length) (h : Lib.parseIntB 64 l = .ok v) : numL l = if Lib.itoa v = l then some v else none := by
  rw [← readL_num, readL, if_neg h0, h]
theorem parse_i64 {l : List UInt8} {v : Int} (h : Lib.parseIntB 64 l = .ok v) : I64 v := by
  unfold Lib.parseIntB at h
  split at h
  · cases h
  · simp only at h
    split at h
    · cases h
    · cases h
    · rename_i u hu
      split at h
      · cases h
      · split at h
        · cases h
        · injection h with h
          subst h
          unfold I64
          split <;> omega
set_option maxHeartbeats 1000000 in
theorem c_ReadDecimal (s : ByteArray) (w : World) (hs : (s.size : Int) ≤ 1048576) (hr : Rd w) :
    Calls Tryd.prog 46 #[.string s] w fun e w' => e = .returned (.tuple #[.int .i64 (numV s.data.toList), .bool (numB s.data.toList)]) ∧ Below w.heap.size w w' := by
  have ct := Tryd.strings_TrimPrefix s ⟨#[45]⟩ w
  have hd45 : (⟨#[45]⟩ : ByteArray).data.toList = [45] := rfl
  rw [hd45] at ct
  have hb1 : (⟨(Lib.trimPrefix s.data.toList [45]).toArray⟩ : ByteArray) = bs (Lib.trimPrefix s.data.toList [45]) := rfl
  rw [hb1] at ct
  obtain ⟨tr, htr⟩ : ∃ tr, tr = bs (Lib.trimPrefix s.data.toList [45]) := ⟨_, rfl⟩
  have hts : tr.size = (Lib.trimPrefix s.data.toList [45]).length := by rw [htr, bs_size]
  rw [← htr] at ct
  have cp := c_ParseInt s w hs hr
  by_cases h18 : 18 < tr.size
  · have HR := hid (num_none (readD_long (by rw [← hts]; exact h18)))
    have hz : decide (18 < tr.size) = true := by simpa using h18
    clear htr hts cp
    go_enter Tryd.func46, Tryd.ntmps46
    go_wp2_with (first | (go_at_call 86; refine ct.mono ?_; rintro e w' ⟨rfl, rfl⟩))
    go_ret2
    rw [HR.out.1, HR.out.2]
    exact ⟨rfl, by (repeat' (first | (with_reducible exact Below.refl _ _) | (with_reducible refine Below.alloc ?_ ?_ _) | (with_reducible refine Below.drew ?_) | (with_reducible refine below_drewN ?_ _) | (with_reducible refine Below.setCell ?_ ?_ _) | (with_reducible refine below_via ‹_› ?_ ?_) | (with_reducible refine below_grow ?_ ?_ _ _) | omega | (simp; done) | (simp; omega)))⟩
  · have hz : decide (18 < tr.size) = false := by simpa using h18
    have HT := hid (show ¬ 18 < (Lib.trimPrefix s.data.toList [45]).length by rw [← hts]; exact h18)
    clear htr hts
    go_enter Tryd.func46, Tryd.ntmps46
    go_wp2_with (go_at_call 86; refine ct.mono ?_; rintro e w' ⟨rfl, rfl⟩)
    refine cp.mono ?_
    rintro e w1 (⟨v, hv, rfl, hb⟩ | ⟨n, T, p, hv, rfl, hb⟩)
    · have hI := parse_i64 hv
      have HRd := readD_ok HT.out hv
      have hr1 := hr.at hb
      have hle : (decS v).toList = Lib.itoa v := by rw [ByteArray.toList_eq, decS_list]
      have hls : s.toList = s.data.toList := by rw [ByteArray.toList_eq]
      cases hq : ((decS v).toList == s.toList)
      · have hq2 : ((decS v).toList != s.toList) = true := by simp [bne, hq]
        have HR := hid (num_none (by rw [HRd, if_neg]; intro e; rw [hle, hls, e] at hq; simp at hq))
        clear hle hls HRd hv
        go_wp2_with (go_at_call 41; refine (c_Decimal v _ hI hr1.pow).mono ?_; rintro e w2 ⟨rfl, hb2⟩; have hz2 := hb2.size)
        go_ret2
        rw [HR.out.1, HR.out.2]
        exact ⟨rfl, by have := hb.size; (repeat' (first | (with_reducible exact Below.refl _ _) | (with_reducible refine Below.alloc ?_ ?_ _) | (with_reducible refine Below.drew ?_) | (with_reducible refine below_drewN ?_ _) | (with_reducible refine Below.setCell ?_ ?_ _) | (with_reducible refine below_via ‹_› ?_ ?_) | (with_reducible refine below_grow ?_ ?_ _ _) | omega | (simp; done) | (simp; omega)))⟩
      · have hq2 : ((decS v).toList != s.toList) = false := by simp [bne, hq]
        have HR := hid (num_some (by rw [HRd, if_pos]; have h1 := beq_iff_eq.1 hq; rw [hle, hls] at h1; exact h1))
        clear hle hls HRd hv
        go_wp2_with (go_at_call 41; refine (c_Decimal v _ hI hr1.pow).mono ?_; rintro e w2 ⟨rfl, hb2⟩; have hz2 := hb2.size)
        go_ret2
        rw [HR.out.1, HR.out.2]
        exact ⟨rfl, by have := hb.size; (repeat' (first | (with_reducible exact Below.refl _ _) | (with_reducible refine Below.alloc ?_ ?_ _) | (with_reducible refine Below.drew ?_) | (with_reducible refine below_drewN ?_ _) | (with_reducible refine Below.setCell ?_ ?_ _) | (with_reducible refine below_via ‹_› ?_ ?_) | (with_reducible refine below_grow ?_ ?_ _ _) | omega | (simp; done) | (simp; omega)))⟩
    · have HR := hid (num_none (readD_bad hv))
      go_wp2
      go_ret2
      rw [HR.out.1, HR.out.2]
      exact ⟨rfl, by (repeat' (first | (with_reducible exact Below.refl _ _) | (with_reducible refine Below.alloc ?_ ?_ _) | (with_reducible refine Below.drew ?_) | (with_reducible refine below_drewN ?_ _) | (with_reducible refine Below.setCell ?_ ?_ _) | (with_reducible refine below_via ‹_› ?_ ?_) | (with_reducible refine below_grow ?_ ?_ _ _) | omega | (simp; done) | (simp; omega)))⟩
end Go.Proofs.YtocpgnpdnoidnaaDoor
