/- The program's numeral and both sides' list text. -/
import Derived.Test.YtabbhlehbhadiaaGreatDoorDec
import Derived.Test.YtabbhlehbhadiaaGreatDoorShelf
import Derived.Test.YtabbhlehbhadiaaGreatDoorBase
import Derived.Test.YtabbhlehbhadiaaGreatDoorSl
import Derived.Lib.SmallJoins
import Derived.Lib.AppendIntMem
import Derived.Deep.RegionHeld3
namespace Go.Proofs.YtabbhlehbhadiaaGreatDoor
open Go.RowKit Go.Sort
set_option linter.unusedVariables false
set_option maxRecDepth 100000

/-! ### byte strings as lists -/
def bs (l : List UInt8) : ByteArray := ⟨l.toArray⟩
theorem bs_app (a b : List UInt8) : bs a ++ bs b = bs (a ++ b) := by unfold bs; rw [ByteArray.mk_append_mk]
theorem bs_size (l : List UInt8) : (bs l).size = l.length := by simp [bs, ByteArray.size]
theorem bs_list (l : List UInt8) : (bs l).data.toList = l := by simp [bs]
theorem decS_bs (n : Int) : decS n = bs (Lib.itoa n) := rfl
theorem bs_self (s : ByteArray) : bs s.data.toList = s := by cases s; simp [bs]
theorem bs_self' (s : ByteArray) : bs s.toList = s := by rw [ByteArray.toList_eq]; exact bs_self s
theorem decS_size {n : Int} (h : I64 n) : (decS n).size ≤ 21 := by rw [decS_bs, bs_size]; exact Lib.itoa_length_le n h.1 h.2

/-! ### the table that the library's numeral reads -/
def Pow (w : World) : Prop := Lib.TabIs Tryz.prog w "internal/strconv.uint64pow10" .u64 Lib.pow10Tab
theorem pow_named : Tryz.prog.globalNamed "internal/strconv.uint64pow10" = some 3 := by kernel_rfl
theorem Pow.at {w w' : World} (h : Pow w) (hb : Below w.heap.size w w') : Pow w' := Joins.tab_stays pow_named h hb (Nat.le_refl _)
theorem c_Decimal (n : Int) (w : World) (hn : I64 n) (hp : Pow w) :
    Calls Tryz.prog 39 #[.int .i64 n] w fun e w' => e = .returned (.string (decS n)) ∧ Below w.heap.size w w' := by
  go_enter Tryz.func39, Tryz.ntmps39
  go_wp2_with (go_at_call 76; refine (Tryz.strconv_FormatInt_10 n hn.1 hn.2 _ hp).mono ?_; rintro e w1 ⟨rfl, k, os, rfl⟩)
  go_ret
  exact ⟨rfl, Lib.below_grow _ _ (Nat.le_refl _) k os⟩

/-! ### the text of a list -/
def numsL (xs : List Int) : List UInt8 := jn 44 (xs.map Lib.itoa)
def listL (xs : List Int) : List UInt8 := if xs = [] then [45] else numsL xs
theorem jn_snoc (c : UInt8) (ps : List (List UInt8)) (p : List UInt8) : jn c (ps ++ [p]) = if ps = [] then p else jn c ps ++ c :: p := by
  cases ps with
  | nil => simp [jn]
  | cons q r => simp [jn]
theorem numsL_take {xs : List Int} {k : Nat} (h : k < xs.length) : numsL (xs.take (k + 1)) = if k = 0 then Lib.itoa xs[k] else numsL (xs.take k) ++ 44 :: Lib.itoa xs[k] := by
  have e : xs.take (k + 1) = xs.take k ++ [xs[k]] := by simp
  rw [e, numsL, List.map_append, List.map_cons, List.map_nil, jn_snoc]
  by_cases hk : k = 0
  · subst hk; simp
  · rw [if_neg hk, if_neg]
    · rfl
    · intro e2
      have h3 : (List.map Lib.itoa (xs.take k)).length = 0 := by rw [e2]; rfl
      rw [List.length_map, List.length_take] at h3
      omega
theorem numsL_size {xs : List Int} (h : ∀ x ∈ xs, I64 x) : (numsL xs).length ≤ 22 * xs.length := by
  have : ∀ k, k ≤ xs.length → (numsL (xs.take k)).length ≤ 22 * k := by
    intro k
    induction k with
    | zero => intro _; simp [numsL, jn]
    | succ k ih =>
      intro hk
      have h1 := ih (by omega)
      have hx := h xs[k] (List.getElem_mem _)
      have h2 := Lib.itoa_length_le xs[k] hx.1 hx.2
      rw [numsL_take (show k < xs.length by omega)]
      split
      · omega
      · simp; omega
  have h2 := this xs.length (Nat.le_refl _)
  rw [List.take_length] at h2
  exact h2

/-! ### lists of strings -/
theorem one_encT (y : ByteArray) : ∀ u ∈ encT y, u.oneCell' = true := by intro u hu; simp only [encT, List.mem_singleton] at hu; subst hu; rfl
theorem info_string : (Tryz.prog.info? 9).map (fun i => (i.zero, i.size, i.bytes)) = some (some (.string ⟨#[]⟩), 1, 16) := by kernel_rfl
theorem c_Join (c : UInt8) (v : Value) (ps : List ByteArray) (w : World) {lo : Nat} (h : SlA w lo 1 encT v ps) (hp : 0 < ps.length) (hl : (jn c (ps.map (·.data.toList))).length ≤ 140737488355328) (hn : ps.length ≤ 140737488355328) :
    Calls Tryz.prog 64 #[v, .string ⟨#[c]⟩] w fun e w' => e = .returned (.string (bs (jn c (ps.map (·.data.toList))))) ∧ Below w.heap.size w w' := by
  rcases h with ⟨a', c', rfl, hx', _⟩ | ⟨b, off, cap, rfl, _, hc, hm, _, hb, hx⟩
  · rw [hx'] at hp; simp at hp
  · rw [← jn_join]
    rw [← jn_join] at hl
    exact Tryz.strings_Join b off cap ps ⟨#[c]⟩ w (fun j x hj => by
      have hj' : j < ps.length := (List.getElem?_eq_some_iff.1 hj).1
      have := hx j hj' 0 (by omega)
      have hxx : ps[j] = x := (List.getElem?_eq_some_iff.1 hj).2
      simpa [encT, hxx] using this) hb hn hc hl

def fitsB (xs : List Int) : Bool := decide ((xs.length : Int) ≤ 64) && xs.all fun x => inB x (-1000000000000) 1000000000000
def listT (xs : List Int) : ByteArray := if fitsB xs then bs (listL xs) else ⟨#[]⟩
theorem listT_ok {xs : List Int} (h : fitsB xs = true) : listT xs = bs (listL xs) := by rw [listT, if_pos h]
theorem listT_no {xs : List Int} (h : fitsB xs = false) : listT xs = ⟨#[]⟩ := by rw [listT, h]; rfl
theorem all_take_snoc {α : Type} (p : α → Bool) (xs : List α) (k : Nat) (h : k < xs.length) : (xs.take (k + 1)).all p = ((xs.take k).all p && p xs[k]) := by
  have e : xs.take (k + 1) = xs.take k ++ [xs[k]] := by simp
  rw [e, List.all_append]; simp
theorem all_false_at {α : Type} (p : α → Bool) (xs : List α) (k : Nat) (h : k < xs.length) (hp : p xs[k] = false) : xs.all p = false := by
  rw [← Bool.not_eq_true]
  intro e
  rw [List.all_eq_true.1 e _ (List.getElem_mem h)] at hp
  cases hp
set_option maxHeartbeats 1000000 in
theorem c_ListText (v : Value) (xs : List Int) (w : World) (h : SlA w 0 1 encI v xs) (hok : ∀ x ∈ xs, I64 x) (hl : xs.length ≤ 1048576) (hp : Pow w) :
    Calls Tryz.prog 40 #[v] w fun e w' => e = .returned (.string (listT xs)) ∧ Below w.heap.size w w' := by
  cases h64 : decide ((xs.length : Int) ≤ 64)
  · obtain ⟨ad, cap, rfl⟩ := h.form
    have HL := hid (show listT xs = ⟨#[]⟩ from listT_no (by rw [fitsB, h64]; rfl))
    go_enter Tryz.func40, Tryz.ntmps40
    go_wp2_with (first | (go_at_call 55; refine (c_few _ _ _).mono ?_; rintro e w' ⟨rfl, rfl⟩))
    go_ret
    rw [HL.out]
    exact ⟨rfl, by (repeat' (first | (with_reducible exact Below.refl _ _) | (with_reducible refine Below.alloc ?_ ?_ _) | (with_reducible refine Below.drew ?_) | (with_reducible refine below_drewN ?_ _) | (with_reducible refine Below.setCell ?_ ?_ _) | (with_reducible refine below_via ‹_› ?_ ?_) | (with_reducible refine below_grow ?_ ?_ _ _) | omega | (simp; done) | (simp; omega)))⟩
  · by_cases h0 : xs = []
    · subst h0
      obtain ⟨ad, cap, rfl⟩ := h.form
      have HL := hid (show listT [] = ⟨#[45]⟩ by rw [listT_ok rfl]; rfl)
      go_enter Tryz.func40, Tryz.ntmps40
      go_wp2_with (first | (go_at_call 55; refine (c_few _ _ _).mono ?_; rintro e w' ⟨rfl, rfl⟩))
      go_ret
      rw [HL.out]
      exact ⟨rfl, by (repeat' (first | (with_reducible exact Below.refl _ _) | (with_reducible refine Below.alloc ?_ ?_ _) | (with_reducible refine Below.drew ?_) | (with_reducible refine below_drewN ?_ _) | (with_reducible refine Below.setCell ?_ ?_ _) | (with_reducible refine below_via ‹_› ?_ ?_) | (with_reducible refine below_grow ?_ ?_ _ _) | omega | (simp; done) | (simp; omega)))⟩
    · have hpos : 0 < xs.length := by cases xs with | nil => exact absurd rfl h0 | cons a l => simp
      obtain ⟨i0, hi, iz0, iz1, iz2⟩ := info_parts info_string
      have HP := hid hp
      have HN := hid (And.intro h0 h64)
      have hlen64 : xs.length ≤ 64 := by simp at h64; omega
      rcases h with ⟨a', c', e', hx', _⟩ | ⟨b, off, cap, rfl, _, hc, hm, _, hb, hx⟩
      · exact absurd hx' h0
      have hz : ((xs.length : Int) == 0) = false := by rw [beq_eq_false_iff_ne]; omega
      have A1 := Acc.lit (α := ByteArray) (W := w.alloc (.cells #[] 9)) (w0 := w) (e := 9) (Below.refl _ _) 1 encT
      obtain ⟨W, hW⟩ : ∃ W, W = w.alloc (.cells #[] 9) := ⟨_, rfl⟩
      rw [← hW] at A1
      have hBW : Below w.heap.size w W := by rw [hW]; exact (Below.refl _ _).alloc (Nat.le_refl _) _
      have hzW : w.heap.size < W.heap.size := by rw [hW]; simp
      have HW := hid hW
      clear hW h0 hp
      go_enter Tryz.func40, Tryz.ntmps40
      go_wp2_with (first | (go_at_call 55; refine (c_few _ _ _).mono ?_; rintro e w' ⟨rfl, rfl⟩))
      (try rw [← HW.out])
      go_loopw [3, 16] (fun u i wr => ∃ k : Nat, k ≤ xs.length ∧ i = .int .i64 k ∧ Hid ((xs.take k).all (fun x => inB x (-1000000000000) 1000000000000) = true) ∧ Acc W w.heap.size 9 1 encT wr u ((xs.take k).map decS)) (fun _ i _ => xs.length - (intOf i).toNat)
      case atStart => exact ⟨0, Nat.zero_le _, rfl, hid rfl, A1⟩
      case round =>
        clear A1
        obtain ⟨k, hk, rfl, hn, hA⟩ := hrel
        by_cases hlt : k < xs.length
        · have hlI : (k : Int) < xs.length := by omega
          have hbW : b < W.heap.size := by have := hBW.size; omega
          have g0 := hA.cellAt hbW (by omega) (below_cell hBW hb (hx k hlt 0 (by omega)))
          simp only [encI, List.getD_cons_zero, Nat.add_zero, Nat.mul_one] at g0
          have hI := hok _ (List.getElem_mem hlt)
          have hBr : Below w.heap.size w wr := hBW.trans hA.keep
          have HPr := HP.out.at hBr
          have hA' := hA
          cases hq : inB xs[k] (-1000000000000) 1000000000000
          · have HL := hid (show listT xs = ⟨#[]⟩ from listT_no (by rw [fitsB, HN.out.2, all_false_at (fun x => inB x (-1000000000000) 1000000000000) xs k hlt hq]; rfl))
            clear hA'
            go_wp2_with (first | (go_at_call 43; refine (c_within _ _ _ _).mono ?_; rintro e w' ⟨rfl, rfl⟩))
            go_ret
            rw [HL.out]
            exact ⟨rfl, hBr⟩
          · have HT := hid (show (xs.take (k + 1)).all (fun x => inB x (-1000000000000) 1000000000000) = true by rw [all_take_snoc _ _ _ hlt, hn.out, hq]; rfl)
            have HM := hid (show (xs.take (k + 1)).map decS = (xs.take k).map decS ++ [decS xs[k]] by
              have e : xs.take (k + 1) = xs.take k ++ [xs[k]] := by simp
              rw [e, List.map_append]; rfl)
            have hml : ((xs.take k).map decS).length ≤ 64 := by simp; omega
            clear hA'
            go_wp2_with (first | (go_at_call 43; refine (c_within _ _ _ _).mono ?_; rintro e w' ⟨rfl, rfl⟩) | (go_at_call 39; refine (c_Decimal _ _ (by first | assumption | (unfold I64; omega)) (by first | (with_reducible assumption) | (with_reducible apply Pow.at; (with_reducible assumption); (repeat' (first | (with_reducible exact Below.refl _ _) | (with_reducible refine Below.alloc ?_ ?_ _) | (with_reducible refine Below.drew ?_) | (with_reducible refine below_drewN ?_ _) | (with_reducible refine Below.setCell ?_ ?_ _) | (with_reducible refine below_via ‹_› ?_ ?_) | (with_reducible refine below_grow ?_ ?_ _ _) | omega | (simp; done) | (simp; omega))); done))).mono ?_; rintro e w1 ⟨rfl, hb⟩; obtain ⟨hc, hf⟩ := bcell hb; have hz := hb.size; (try simp at hz); (try have hz0 : ∀ b, b < w.heap.size → b < w1.heap.size := fun b h => by omega); (try have hz1 : w.heap.size < w1.heap.size := by omega); (try have hz2 : w.heap.size + 1 < w1.heap.size := by omega); (try have hz3 : w.heap.size + 2 < w1.heap.size := by omega)) | (at_builtin; refine wpList_push rfl (.tmp 23) (.tmp 26) 69 rfl i0 (.string ⟨#[]⟩) 16 Tryz.underlying69 hi iz0 iz1 iz2 rfl (by decide) (fun _ => rfl) (decS xs[k]) rfl hA (by (repeat' (first | (with_reducible exact Below.refl _ _) | (with_reducible refine Below.alloc ?_ ?_ _) | (with_reducible refine Below.drew ?_) | (with_reducible refine below_drewN ?_ _) | (with_reducible refine Below.setCell ?_ ?_ _) | (with_reducible refine below_via ‹_› ?_ ?_) | (with_reducible refine below_grow ?_ ?_ _ _) | omega | (simp; done) | (simp; omega)))) 9 1 rfl (one_encT _) (by unfold maxLen; omega) (by omega) ?_; intro v2 w2 hA2))
            go_roundw
            case rel => exact ⟨k + 1, by omega, by go_num, HT, by rw [HM.out]; exact hA2⟩
            case measure => simp [intOf]; omega
        · have e : k = xs.length := by omega
          have hlI : ¬ (k : Int) < xs.length := by omega
          rw [e, List.take_length] at hA hn
          have hfit : fitsB xs = true := by rw [fitsB, HN.out.2, hn.out]; rfl
          have HL := hid (show listT xs = bs (listL xs) from listT_ok hfit)
          have hBr : Below w.heap.size w wr := hBW.trans hA.keep
          have hS := (hA.slo (fun _ => rfl)).1
          have hjm : (xs.map decS).map (·.data.toList) = xs.map Lib.itoa := by rw [List.map_map]; exact List.map_congr_left fun n _ => decS_list n
          have hsz := numsL_size hok
          have cj := c_Join 44 _ (xs.map decS) wr hS (by simpa using hpos) (by rw [hjm]; show (numsL xs).length ≤ _; omega) (by simp; omega)
          rw [hjm] at cj
          have HLL := hid (show listL xs = jn 44 (xs.map Lib.itoa) by rw [listL, if_neg HN.out.1]; rfl)
          clear hA hS hn hfit e hjm hx
          go_wp2_with (first | (go_at_call 64; refine cj.mono ?_; rintro e w1 ⟨rfl, hb⟩))
          go_ret
          rw [HL.out, HLL.out]
          exact ⟨rfl, hBr.trans (hb.mono hBr.size)⟩
end Go.Proofs.YtabbhlehbhadiaaGreatDoor
namespace Go.Proofs.YtabbhlehbhadiaaGreatDoor
open Go.RowKit Go.Sort
set_option linter.unusedVariables false
set_option maxRecDepth 100000

theorem sl_fresh {α : Type} {enc : α → List Value} (hn : ∀ x, (enc x).length = 1) {W w : World} {bk : Nat} (xs : List α) {T : TypeId} {cs : Array Value} (hW : W = w.alloc (.cells cs T)) (hb : bk = w.heap.size) (hcs : cs = (xs.flatMap enc).toArray) {m : Nat} (hm : m = xs.length) (hl : xs.length ≤ 1048576) :
    SlA W 0 1 enc (.slice (some ⟨bk, 0, none⟩) m m) xs := by
  subst hW; subst hb; subst hm; subst hcs
  by_cases h0 : xs.length = 0
  · have : xs = [] := List.eq_nil_of_length_eq_zero h0
    subst this
    exact .inl ⟨_, 0, rfl, rfl, Nat.zero_le _⟩
  · refine .inr ⟨w.heap.size, 0, xs.length, rfl, by omega, Nat.le_refl _, by unfold maxLen; omega, Nat.zero_le _, by simp, fun i hi j hj => ?_⟩
    have hj0 : j = 0 := by omega
    subst hj0
    have := flat_get (n := 1) enc hn xs i hi 0 (by omega)
    have hfl := flat_len (n := 1) enc hn xs
    rw [World.cell?_alloc_at _ _ _ _ rfl, ← this, List.getD_eq_getElem?_getD]
    simp only [Nat.zero_add, Nat.add_zero, Nat.mul_one, List.getElem?_toArray]
    rw [List.getElem?_eq_getElem (by omega)]; rfl

theorem SlA.drew {α : Type} {w : World} {lo n : Nat} {enc : α → List Value} {v : Value} {xs : List α} (h : SlA w lo n enc v xs) : SlA w.drew lo n enc v xs := h.below (Below.drew (Below.refl w.heap.size w)) (Nat.le_refl _)
def shipT (s : ByteArray) (a b c : Int) : List UInt8 := s.data.toList ++ 32 :: listL [a, b, c]
def shipR (s : ByteArray) (a b c : Int) : ByteArray := if shipB s a b c then bs (shipT s a b c) else ⟨#[]⟩
theorem ship_cat (s : ByteArray) (l : List UInt8) : s ++ (⟨#[32]⟩ : ByteArray) ++ bs l = bs (s.data.toList ++ 32 :: l) := by
  have e : (⟨#[32]⟩ : ByteArray) = bs [32] := rfl
  rw [← bs_self s, e, bs_app, bs_app]; simp [bs]
theorem listL_size {xs : List Int} (h : ∀ x ∈ xs, I64 x) : (listL xs).length ≤ 22 * xs.length + 1 := by
  unfold listL; split
  · simp
  · have := numsL_size h; omega
theorem ship_fits {s : ByteArray} {a b c : Int} (h : shipB s a b c = true) : fitsB [a, b, c] = true ∧ (s.size : Int) ≤ 10 ∧ I64 a ∧ I64 b ∧ I64 c := by
  simp only [shipB, Bool.and_eq_true] at h
  obtain ⟨⟨⟨h0, h1⟩, h2⟩, h3⟩ := h
  have e1 := inB_true h1
  have e2 := inB_true h2
  have e3 := inB_true h3
  have e0 : (s.size : Int) ≤ 10 := by simp only [nameB, Bool.and_eq_true, decide_eq_true_eq] at h0; exact h0.1.1.2
  refine ⟨?_, e0, by unfold I64; omega, by unfold I64; omega, by unfold I64; omega⟩
  simp [fitsB, inB]; omega
end Go.Proofs.YtabbhlehbhadiaaGreatDoor
namespace Go.Proofs.YtabbhlehbhadiaaGreatDoor
open Go.RowKit Go.Sort
set_option linter.unusedVariables false
set_option maxRecDepth 100000

def pointL (x y : Int) : List UInt8 := Lib.itoa x ++ 44 :: Lib.itoa y
theorem two_cat (c : UInt8) (a b : List UInt8) : bs a ++ (⟨#[c]⟩ : ByteArray) ++ bs b = bs (a ++ c :: b) := by
  have e : (⟨#[c]⟩ : ByteArray) = bs [c] := rfl
  rw [e, bs_app, bs_app]; simp
theorem pointL_size {x y : Int} (hx : I64 x) (hy : I64 y) : (bs (pointL x y)).size ≤ 43 := by
  have h1 := Lib.itoa_length_le x hx.1 hx.2
  have h2 := Lib.itoa_length_le y hy.1 hy.2
  rw [bs_size, pointL, List.length_append, List.length_cons]; omega
def pointR (x y : Int) : ByteArray := if pointB x y then bs (pointL x y) else ⟨#[]⟩
theorem pointR_ok {x y : Int} (h : pointB x y = true) : pointR x y = bs (pointL x y) := by rw [pointR, if_pos h]
theorem pointR_no {x y : Int} (h : pointB x y = false) : pointR x y = ⟨#[]⟩ := by rw [pointR, h]; rfl
end Go.Proofs.YtabbhlehbhadiaaGreatDoor
namespace Go.Proofs.YtabbhlehbhadiaaGreatDoor
open Go.RowKit Go.Sort
set_option linter.unusedVariables false
set_option maxRecDepth 100000

def workT (s : ByteArray) (x y a b c d : Int) : List UInt8 := s.data.toList ++ 32 :: (pointL x y ++ 32 :: listL [a, b, c, d])
def workR (s : ByteArray) (x y a b c d : Int) : ByteArray := if workB s x y a b c d then bs (workT s x y a b c d) else ⟨#[]⟩
theorem work_cat (s : ByteArray) (p l : List UInt8) : s ++ (⟨#[32]⟩ : ByteArray) ++ bs p ++ (⟨#[32]⟩ : ByteArray) ++ bs l = bs (s.data.toList ++ 32 :: (p ++ 32 :: l)) := by
  have e : (⟨#[32]⟩ : ByteArray) = bs [32] := rfl
  rw [← bs_self s, e, bs_app, bs_app, bs_app, bs_app]; simp [bs]
theorem big_no {n : Nat} (h : n ≤ 9000000000000000000) : ¬ (9223372036854775807 < n) ∧ ¬ (9223372036854775807 ≤ n) := by omega
theorem work_fits {s : ByteArray} {x y a b c d : Int} (h : workB s x y a b c d = true) : fitsB [a, b, c, d] = true ∧ pointB x y = true ∧ (s.size : Int) ≤ 10 := by
  simp only [workB, Bool.and_eq_true] at h
  obtain ⟨⟨⟨⟨⟨h0, hp⟩, h1⟩, h2⟩, h3⟩, h4⟩ := h
  have e1 := inB_true h1
  have e2 := inB_true h2
  have e3 := inB_true h3
  have e4 := inB_true h4
  have e0 : (s.size : Int) ≤ 10 := by simp only [nameB, Bool.and_eq_true, decide_eq_true_eq] at h0; exact h0.1.1.2
  refine ⟨?_, hp, e0⟩
  simp [fitsB, inB]; omega
end Go.Proofs.YtabbhlehbhadiaaGreatDoor
