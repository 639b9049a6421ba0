/- The program's reading of a number. -/
import Derived.Test.YtabbhlehbhadiaaGreatDoorSplit
import Derived.Test.YtabbhlehbhadiaaGreatDoorShelfR
namespace Go.Proofs.YtabbhlehbhadiaaGreatDoor
open Go.RowKit Go.Sort
set_option linter.unusedVariables false
set_option maxRecDepth 100000

/-- what the library reads of its own variables -/
structure Rd (w : World) : Prop where
  pow : Pow w
  mx : ∃ m, w.cell? ⟨0, 0, none⟩ = some (.int .i64 m)
  syn : ∃ ev, w.cell? ⟨1, 0, none⟩ = some ev ∧ (ev = .nilIface ∨ ∃ te pe, ev = .iface te pe)
  rng : ∃ ev, w.cell? ⟨2, 0, none⟩ = some ev ∧ (ev = .nilIface ∨ ∃ te pe, ev = .iface te pe)
theorem Rd.at {w w' : World} (h : Rd w) (hb : Below w.heap.size w w') : Rd w' := by
  have keep : ∀ {g : Nat} {v : Value}, w.cell? ⟨g, 0, none⟩ = some v → w'.cell? ⟨g, 0, none⟩ = some v := fun h => below_cell hb (block_lt_of_cell h) h
  obtain ⟨m, hm⟩ := h.mx
  obtain ⟨e1, h1, h1'⟩ := h.syn
  obtain ⟨e2, h2, h2'⟩ := h.rng
  exact ⟨h.pow.at hb, ⟨m, keep hm⟩, ⟨e1, keep h1, h1'⟩, ⟨e2, keep h2, h2'⟩⟩
theorem c_ParseInt (s : ByteArray) (w : World) (hs : (s.size : Int) ≤ 1048576) (hr : Rd w) :
    Calls Tryz.prog 75 #[.string s, .int .i64 10, .int .i64 64] w fun e w' =>
      (∃ v, Lib.parseIntB 64 s.data.toList = .ok v ∧ e = .returned (.tuple #[.int .i64 v, .nilIface]) ∧ Below w.heap.size w w') ∨
      (∃ n T p, (∀ v, Lib.parseIntB 64 s.data.toList ≠ .ok v) ∧ e = .returned (.tuple #[.int .i64 n, .iface T p]) ∧ Below w.heap.size w w') := by
  obtain ⟨e1, h1, h1'⟩ := hr.syn
  obtain ⟨e2, h2, h2'⟩ := hr.rng
  cases h : Lib.parseIntB 64 s.data.toList
  · rename_i v
    refine (Tryz.strconv_ParseInt_10_at64_ok s (by omega) v h w).mono fun e w' ⟨he, hw⟩ => .inl ⟨v, rfl, he, ?_⟩
    rcases hw with rfl | ⟨t, rfl⟩
    · exact Below.refl _ _
    · exact Joins.below_bytesWorld _ w _ t (Nat.le_refl _)
  · refine (Any.strconv_ParseInt_10_at64_syntax Tryz.laysC174 s (by omega) h e1 w h1 h1').mono fun e w' ⟨N, he, _, _, hb⟩ => .inr ⟨_, _, _, fun v hv => (by cases hv), he, hb⟩
  · refine (Any.strconv_ParseInt_10_at64_range Tryz.laysC174 s (by omega) h e2 w h2 h2').mono fun e w' ⟨N, he, _, _, hb⟩ => .inr ⟨_, _, _, fun v hv => (by cases hv), he, hb⟩
theorem trim_len (l : List UInt8) : ((⟨(Lib.trimPrefix l [45]).toArray⟩ : ByteArray).size : Int) = ((Lib.trimPrefix l [45]).length : Int) := by simp [ByteArray.size]
theorem readD_long {l : List UInt8} (h : 18 < (Lib.trimPrefix l [45]).length) : numL l = none := by rw [← readL_num, readL, if_pos h]
theorem readD_bad {l : List UInt8} (h : ∀ v, Lib.parseIntB 64 l ≠ .ok v) : numL l = none := by
  rw [← readL_num, readL]
  split
  · rfl
  · split
    · rename_i v hv; exact absurd hv (h v)
    · rfl
theorem readD_ok {l : List UInt8} {v : Int} (h0 : ¬ 18 < (Lib.trimPrefix l [45]).length) (h : Lib.parseIntB 64 l = .ok v) : numL l = if Lib.itoa v = l then some v else none := by
  rw [← readL_num, readL, if_neg h0, h]
theorem parse_i64 {l : List UInt8} {v : Int} (h : Lib.parseIntB 64 l = .ok v) : I64 v := by
  unfold Lib.parseIntB at h
  split at h
  · cases h
  · simp only at h
    split at h
    · cases h
    · cases h
    · rename_i u hu
      split at h
      · cases h
      · split at h
        · cases h
        · injection h with h
          subst h
          unfold I64
          split <;> omega
set_option maxHeartbeats 1000000 in
theorem c_ReadDecimal (s : ByteArray) (w : World) (hs : (s.size : Int) ≤ 1048576) (hr : Rd w) :
    Calls Tryz.prog 37 #[.string s] w fun e w' => e = .returned (.tuple #[.int .i64 (numV s.data.toList), .bool (numB s.data.toList)]) ∧ Below w.heap.size w w' := by
  have ct := Tryz.strings_TrimPrefix s ⟨#[45]⟩ w
  have hd45 : (⟨#[45]⟩ : ByteArray).data.toList = [45] := rfl
  rw [hd45] at ct
  have hb1 : (⟨(Lib.trimPrefix s.data.toList [45]).toArray⟩ : ByteArray) = bs (Lib.trimPrefix s.data.toList [45]) := rfl
  rw [hb1] at ct
  obtain ⟨tr, htr⟩ : ∃ tr, tr = bs (Lib.trimPrefix s.data.toList [45]) := ⟨_, rfl⟩
  have hts : tr.size = (Lib.trimPrefix s.data.toList [45]).length := by rw [htr, bs_size]
  rw [← htr] at ct
  have cp := c_ParseInt s w hs hr
  by_cases h18 : 18 < tr.size
  · have HR := hid (num_none (readD_long (by rw [← hts]; exact h18)))
    have hz : decide (18 < tr.size) = true := by simpa using h18
    clear htr hts cp
    go_enter Tryz.func37, Tryz.ntmps37
    go_wp2_with (first | (go_at_call 74; refine ct.mono ?_; rintro e w' ⟨rfl, rfl⟩))
    go_ret2
    rw [HR.out.1, HR.out.2]
    exact ⟨rfl, by (repeat' (first | (with_reducible exact Below.refl _ _) | (with_reducible refine Below.alloc ?_ ?_ _) | (with_reducible refine Below.drew ?_) | (with_reducible refine below_drewN ?_ _) | (with_reducible refine Below.setCell ?_ ?_ _) | (with_reducible refine below_via ‹_› ?_ ?_) | (with_reducible refine below_grow ?_ ?_ _ _) | omega | (simp; done) | (simp; omega)))⟩
  · have hz : decide (18 < tr.size) = false := by simpa using h18
    have HT := hid (show ¬ 18 < (Lib.trimPrefix s.data.toList [45]).length by rw [← hts]; exact h18)
    clear htr hts
    go_enter Tryz.func37, Tryz.ntmps37
    go_wp2_with (go_at_call 74; refine ct.mono ?_; rintro e w' ⟨rfl, rfl⟩)
    refine cp.mono ?_
    rintro e w1 (⟨v, hv, rfl, hb⟩ | ⟨n, T, p, hv, rfl, hb⟩)
    · have hI := parse_i64 hv
      have HRd := readD_ok HT.out hv
      have hr1 := hr.at hb
      have hle : (decS v).toList = Lib.itoa v := by rw [ByteArray.toList_eq, decS_list]
      have hls : s.toList = s.data.toList := by rw [ByteArray.toList_eq]
      cases hq : ((decS v).toList == s.toList)
      · have hq2 : ((decS v).toList != s.toList) = true := by simp [bne, hq]
        have HR := hid (num_none (by rw [HRd, if_neg]; intro e; rw [hle, hls, e] at hq; simp at hq))
        clear hle hls HRd hv
        go_wp2_with (go_at_call 39; refine (c_Decimal v _ hI hr1.pow).mono ?_; rintro e w2 ⟨rfl, hb2⟩; have hz2 := hb2.size)
        go_ret2
        rw [HR.out.1, HR.out.2]
        exact ⟨rfl, by have := hb.size; (repeat' (first | (with_reducible exact Below.refl _ _) | (with_reducible refine Below.alloc ?_ ?_ _) | (with_reducible refine Below.drew ?_) | (with_reducible refine below_drewN ?_ _) | (with_reducible refine Below.setCell ?_ ?_ _) | (with_reducible refine below_via ‹_› ?_ ?_) | (with_reducible refine below_grow ?_ ?_ _ _) | omega | (simp; done) | (simp; omega)))⟩
      · have hq2 : ((decS v).toList != s.toList) = false := by simp [bne, hq]
        have HR := hid (num_some (by rw [HRd, if_pos]; have h1 := beq_iff_eq.1 hq; rw [hle, hls] at h1; exact h1))
        clear hle hls HRd hv
        go_wp2_with (go_at_call 39; refine (c_Decimal v _ hI hr1.pow).mono ?_; rintro e w2 ⟨rfl, hb2⟩; have hz2 := hb2.size)
        go_ret2
        rw [HR.out.1, HR.out.2]
        exact ⟨rfl, by have := hb.size; (repeat' (first | (with_reducible exact Below.refl _ _) | (with_reducible refine Below.alloc ?_ ?_ _) | (with_reducible refine Below.drew ?_) | (with_reducible refine below_drewN ?_ _) | (with_reducible refine Below.setCell ?_ ?_ _) | (with_reducible refine below_via ‹_› ?_ ?_) | (with_reducible refine below_grow ?_ ?_ _ _) | omega | (simp; done) | (simp; omega)))⟩
    · have HR := hid (num_none (readD_bad hv))
      go_wp2
      go_ret2
      rw [HR.out.1, HR.out.2]
      exact ⟨rfl, by (repeat' (first | (with_reducible exact Below.refl _ _) | (with_reducible refine Below.alloc ?_ ?_ _) | (with_reducible refine Below.drew ?_) | (with_reducible refine below_drewN ?_ _) | (with_reducible refine Below.setCell ?_ ?_ _) | (with_reducible refine below_via ‹_› ?_ ?_) | (with_reducible refine below_grow ?_ ?_ _ _) | omega | (simp; done) | (simp; omega)))⟩
end Go.Proofs.YtabbhlehbhadiaaGreatDoor
namespace Go.Proofs.YtabbhlehbhadiaaGreatDoor
open Go.RowKit Go.Sort
set_option linter.unusedVariables false
set_option maxRecDepth 100000

theorem count_cut (c : UInt8) : ∀ (n : Nat) (l : List UInt8), l.length ≤ n → Lib.count l [c] + 1 = (cutAt c l).length := by
  intro n
  induction n with
  | zero =>
    intro l hl
    have : l = [] := List.eq_nil_of_length_eq_zero (by omega)
    subst this; rfl
  | succ n ih =>
    intro l hl
    rcases index_one c l with ⟨h1, h2⟩ | ⟨i, h1, h2, h3, h4⟩
    · rw [Lib.count_miss h1, cutAt_clean c l h2]; rfl
    · rw [Lib.count_hit (by simp) h1]
      simp only [List.length_cons, List.length_nil, Nat.zero_add]
      have h5 := ih (l.drop (i + 1)) (by rw [List.length_drop]; omega)
      conv => rhs; rw [h4]
      rw [cutAt_app c _ _ h3, List.length_cons, ← h5]
      omega
theorem splitB_cut (c : UInt8) (s : ByteArray) : Lib.splitB ⟨#[c]⟩ 0 (Lib.countB s ⟨#[c]⟩) s = cutB c s.data.toList := by
  have h1 := Lib.splitB_data ⟨#[c]⟩ 0 (Lib.countB s ⟨#[c]⟩) s
  have h2 : Lib.splitK [c] 0 (Lib.countB s ⟨#[c]⟩) s.data.toList = cutAt c s.data.toList := splitK_cut c _ _ (Nat.le_refl _)
  have h3 : (⟨#[c]⟩ : ByteArray).data.toList = [c] := rfl
  rw [h3, h2] at h1
  rw [cutB, ← h1, List.map_map]
  conv => lhs; rw [← List.map_id (Lib.splitB ⟨#[c]⟩ 0 (Lib.countB s ⟨#[c]⟩) s)]
  exact List.map_congr_left fun x _ => (bs_self x).symm
theorem cutB_len (c : UInt8) (l : List UInt8) : (cutB c l).length ≤ l.length + 1 := by rw [cutB, List.length_map]; exact cutAt_len c l
theorem slo_fresh {α : Type} {enc : α → List Value} (hn : ∀ x, (enc x).length = 1) (w : World) (xs : List α) (T : TypeId) {cs : Array Value} (hcs : cs = (xs.flatMap enc).toArray) {m : Nat} (hm : m = xs.length) (hl : xs.length ≤ 1048577) :
    SlO (w.alloc (.cells cs T)) w.heap.size 1 enc (.slice (some ⟨w.heap.size, 0, none⟩) m m) xs := by
  subst hm; subst hcs
  refine ⟨?_, fun b hb => by simp [Value.ownBlock] at hb; subst hb; exact ⟨by simp, Nat.le_refl _, fun j => World.frozen?_alloc_at _ _ _ _ rfl⟩⟩
  by_cases h0 : xs.length = 0
  · have : xs = [] := List.eq_nil_of_length_eq_zero h0
    subst this
    exact .inl ⟨_, 0, rfl, rfl, Nat.zero_le _⟩
  · refine .inr ⟨w.heap.size, 0, xs.length, rfl, by omega, Nat.le_refl _, by unfold maxLen; omega, Nat.le_refl _, by simp, fun i hi j hj => ?_⟩
    have hj0 : j = 0 := by omega
    subst hj0
    have := flat_get (n := 1) enc hn xs i hi 0 (by omega)
    have hfl := flat_len (n := 1) enc hn xs
    rw [World.cell?_alloc_at _ _ _ _ rfl, ← this, List.getD_eq_getElem?_getD]
    simp only [Nat.zero_add, Nat.add_zero, Nat.mul_one, List.getElem?_toArray]
    rw [List.getElem?_eq_getElem (by omega)]; rfl
theorem flat_encT (xs : List ByteArray) : xs.flatMap encT = xs.map Value.string := by
  induction xs with
  | nil => rfl
  | cons x xs ih => simp only [List.flatMap_cons, encT, ih, List.map_cons, List.singleton_append]
theorem c_Split (c : UInt8) (s : ByteArray) (w : World) (hs : (s.size : Int) ≤ 1048576) (hr : Rd w) :
    Calls Tryz.prog 62 #[.string s, .string ⟨#[c]⟩] w fun e w' => ∃ u, e = .returned u ∧ Below w.heap.size w w' ∧ SlO w' w.heap.size 1 encT u (cutB c s.data.toList) := by
  obtain ⟨m, hm⟩ := hr.mx
  refine (Tryz.strings_Split s ⟨#[c]⟩ m w (by omega) hm (Nat.le_refl 1)).mono fun e w' ⟨he, hw⟩ => ⟨_, he, ?_, ?_⟩
  · rw [hw]; exact (Below.refl _ _).alloc (Nat.le_refl _) _
  · rw [hw, splitB_cut]
    have hlen : Lib.countB s ⟨#[c]⟩ + 1 = (cutB c s.data.toList).length := by
      rw [cutB, List.length_map]; exact count_cut c _ s.data.toList (Nat.le_refl _)
    refine slo_fresh (fun _ => rfl) w (cutB c s.data.toList) _ (by rw [flat_encT]) hlen ?_
    have := cutB_len c s.data.toList
    have h2 : s.data.toList.length = s.size := by simp
    omega
def wordsL (l : List UInt8) : List (List UInt8) := (cutAt 32 l).filter fun p => !p.isEmpty
def keptS (x : ByteArray) : Bool := !x.toList.isEmpty
theorem words_map (l : List UInt8) : (wordsL l).map bs = (cutB 32 l).filter keptS := by
  rw [wordsL, cutB, List.filter_map]
  congr 1
  apply List.filter_congr
  intro p _
  show _ = keptS (bs p)
  rw [keptS, ByteArray.toList_eq, bs_list]
theorem filter_t {α : Type} (p : α → Bool) (xs : List α) (k : Nat) (h : k < xs.length) (hp : p xs[k] = true) : (xs.take (k + 1)).filter p = (xs.take k).filter p ++ [xs[k]] := by
  have e : xs.take (k + 1) = xs.take k ++ [xs[k]] := by simp
  rw [e, List.filter_append]; simp [hp]
theorem filter_f {α : Type} (p : α → Bool) (xs : List α) (k : Nat) (h : k < xs.length) (hp : p xs[k] = false) : (xs.take (k + 1)).filter p = (xs.take k).filter p := by
  have e : xs.take (k + 1) = xs.take k ++ [xs[k]] := by simp
  rw [e, List.filter_append]; simp [hp]
theorem filter_le {α : Type} (p : α → Bool) (xs : List α) (k : Nat) : ((xs.take k).filter p).length ≤ xs.length := by
  have h1 := List.length_filter_le p (xs.take k)
  have h2 : (xs.take k).length ≤ xs.length := by simp; omega
  omega
set_option maxHeartbeats 2000000 in
theorem c_SplitWords (s : ByteArray) (w : World) (hs : (s.size : Int) ≤ 1048576) (hr : Rd w) :
    Calls Tryz.prog 36 #[.string s] w fun e w' => ∃ u, e = .returned u ∧ Below w.heap.size w w' ∧ SlO w' w.heap.size 1 encT u ((wordsL s.data.toList).map bs) := by
  obtain ⟨i0, hi, iz0, iz1, iz2⟩ := info_parts info_string
  have hrW := hr.at ((Below.refl w.heap.size w).alloc (Nat.le_refl _) (.cells #[] 9))
  have cs := c_Split 32 s _ hs hrW
  go_enter Tryz.func36, Tryz.ntmps36
  go_wp2_with fail
  refine cs.mono ?_
  rintro e w1 ⟨v, rfl, hb1, hS1⟩
  have hz1 := hb1.size
  simp at hz1
  have A1 := Acc.lit (α := ByteArray) (W := w1) (w0 := w) (e := 9) (by simpa using hb1) 1 encT
  have hB1 : Below w.heap.size w w1 := by (repeat' (first | (with_reducible exact Below.refl _ _) | (with_reducible refine Below.alloc ?_ ?_ _) | (with_reducible refine Below.drew ?_) | (with_reducible refine below_drewN ?_ _) | (with_reducible refine Below.setCell ?_ ?_ _) | (with_reducible refine below_via ‹_› ?_ ?_) | (with_reducible refine below_grow ?_ ?_ _ _) | omega | (simp; done) | (simp; omega)))
  have hlen := cutB_len 32 s.data.toList
  have hls : s.data.toList.length = s.size := by simp
  have HM := hid (words_map s.data.toList)
  obtain ⟨xs, hxs⟩ : ∃ xs, xs = cutB 32 s.data.toList := ⟨_, rfl⟩
  rw [← hxs] at hS1 hlen HM
  obtain ⟨ad, cap, rfl⟩ := hS1.1.form
  have hne : ∀ b, (Value.slice ad xs.length cap).ownBlock = some b → b ≠ w.heap.size := fun b hb => by have := (hS1.2 b hb).2.1; simp at this; omega
  have HS := hid (And.intro hS1.1 hne)
  have hxl : xs.length ≤ 1048577 := by omega
  clear hxs hS1 hne hls hlen
  go_wp2_with fail
  go_loopw [3, 10] (fun u i wr => ∃ k : Nat, k ≤ xs.length ∧ i = .int .i64 k ∧ Acc w1 w.heap.size 9 1 encT wr u ((xs.take k).filter keptS)) (fun _ i _ => xs.length - (intOf i).toNat)
  case atStart => exact ⟨0, Nat.zero_le _, rfl, A1⟩
  case round =>
    clear A1
    obtain ⟨k, hk, rfl, hA⟩ := hrel
    have hfl := filter_le keptS xs k
    by_cases hlt : k < xs.length
    · have hlI : (k : Int) < xs.length := by omega
      obtain ⟨bb, off, he, hbb, hcl⟩ : ∃ bb off, (Value.slice ad xs.length cap) = .slice (some ⟨bb, off, none⟩) xs.length cap ∧ bb < wr.heap.size ∧ wr.cell? ⟨bb, off + k, none⟩ = some (.string xs[k]) := by
        rcases hA.sl HS.out.1 HS.out.2 with ⟨a', c', e', hx', _⟩ | ⟨b', off', c', e', hp', hc', hm', hlo', hbb', hcell'⟩
        · rw [hx'] at hlt; simp at hlt
        · simp only [Value.slice.injEq] at e'
          obtain ⟨rfl, -, rfl⟩ := e'
          exact ⟨b', off', rfl, hbb', by simpa [encT] using hcell' k hlt 0 (by omega)⟩
      simp only [Value.slice.injEq, and_true] at he
      subst he
      obtain ⟨x, hx⟩ : ∃ x, x = xs[k] := ⟨_, rfl⟩
      rw [← hx] at hcl
      cases hq : (x.toList == ([] : List UInt8))
      · have hq2 : (x.toList != ([] : List UInt8)) = true := by simp [bne, hq]
        have HT := hid (show (xs.take (k + 1)).filter keptS = (xs.take k).filter keptS ++ [x] by rw [hx]; exact filter_t keptS xs k hlt (by rw [← hx, keptS]; cases hh : x.toList with | nil => rw [hh] at hq; simp at hq | cons a b => rfl))
        clear hx
        go_wp2_with (first | (at_builtin; refine wpList_push rfl (.tmp 16) (.tmp 18) 69 rfl i0 (.string ⟨#[]⟩) 16 Tryz.underlying69 hi iz0 iz1 iz2 rfl (by decide) (fun _ => rfl) x rfl hA (by (repeat' (first | (with_reducible exact Below.refl _ _) | (with_reducible refine Below.alloc ?_ ?_ _) | (with_reducible refine Below.drew ?_) | (with_reducible refine below_drewN ?_ _) | (with_reducible refine Below.setCell ?_ ?_ _) | (with_reducible refine below_via ‹_› ?_ ?_) | (with_reducible refine below_grow ?_ ?_ _ _) | omega | (simp; done) | (simp; omega)))) 9 1 rfl (one_encT _) (by unfold maxLen; omega) (by omega) ?_; intro v2 w2 hA2))
        go_roundw
        case rel => exact ⟨k + 1, by omega, by go_num, by rw [HT.out]; exact hA2⟩
        case measure => simp [intOf]; omega
      · have hq2 : (x.toList != ([] : List UInt8)) = false := by simp [bne, hq]
        have HT := hid (show (xs.take (k + 1)).filter keptS = (xs.take k).filter keptS by exact filter_f keptS xs k hlt (by rw [← hx, keptS, beq_iff_eq.1 hq]; rfl))
        clear hx
        go_wp2_with fail
        go_roundw
        case rel => exact ⟨k + 1, by omega, by go_num, by rw [HT.out]; exact hA⟩
        case measure => simp [intOf]; omega
    · have hke : k = xs.length := by omega
      have hlI : ¬ (k : Int) < xs.length := by omega
      have hD := hA.done (fun _ => rfl) hB1 (Nat.le_refl _)
      rw [hke, List.take_length] at hD
      have HD := hid hD
      clear hD
      go_wp2_with fail
      go_ret
      rw [HM.out]
      exact ⟨_, rfl, HD.out.1, HD.out.2⟩
end Go.Proofs.YtabbhlehbhadiaaGreatDoor
