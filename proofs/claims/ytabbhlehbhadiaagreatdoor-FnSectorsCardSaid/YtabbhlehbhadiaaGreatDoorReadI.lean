/- Lists of numbers read, both sides. -/
import Derived.Test.YtabbhlehbhadiaaGreatDoorReadD
namespace Go.Proofs.YtabbhlehbhadiaaGreatDoor
open Go.RowKit Go.Sort
set_option linter.unusedVariables false
set_option maxRecDepth 100000

def numS (x : ByteArray) : Int := numV x.data.toList
def okN (x : ByteArray) : Bool := numB x.data.toList && inB (numS x) (-1000000000000) 1000000000000
def rdP (l : List UInt8) : List ByteArray := cutB 44 l
def rdB (l : List UInt8) : Bool := (l == [45]) || (decide ((rdP l).length ≤ 64) && (rdP l).all okN)
def rdX (l : List UInt8) : List Int := if l == [45] then [] else if rdB l then (rdP l).map numS else []
theorem rd_dash {l : List UInt8} (h : (l == [45]) = true) : rdB l = true ∧ rdX l = [] := by simp [rdB, rdX, h]
theorem rd_long {l : List UInt8} (h : (l == [45]) = false) (h2 : ¬ (rdP l).length ≤ 64) : rdB l = false ∧ rdX l = [] := by simp [rdB, rdX, h, h2]
theorem rd_bad {l : List UInt8} (h : (l == [45]) = false) (h2 : (rdP l).all okN = false) : rdB l = false ∧ rdX l = [] := by simp only [rdB, rdX, h, h2]; simp
theorem rd_ok {l : List UInt8} (h : (l == [45]) = false) (h3 : (rdP l).length ≤ 64) (h2 : (rdP l).all okN = true) : rdB l = true ∧ rdX l = (rdP l).map numS := by simp only [rdB, rdX, h, h2]; simp [h3]
theorem map_take_snoc {α β : Type} (f : α → β) (xs : List α) (k : Nat) (h : k < xs.length) : (xs.take (k + 1)).map f = (xs.take k).map f ++ [f xs[k]] := by
  have e : xs.take (k + 1) = xs.take k ++ [xs[k]] := by simp
  rw [e, List.map_append]; rfl
def ListPost (l : List UInt8) (w : World) (e : Ending) (w' : World) : Prop := ∃ u, e = .returned (.tuple #[u, .bool (rdB l)]) ∧ Below w.heap.size w w' ∧ SlO w' w.heap.size 1 encI u (rdX l)
theorem listPost_none {l : List UInt8} {w w' : World} (h : Below w.heap.size w w') {b : Bool} (hr : rdB l = b ∧ rdX l = []) : ListPost l w (.returned (.tuple #[.slice none 0 0, .bool b])) w' :=
  ⟨_, by rw [hr.1], h, .inl ⟨none, 0, rfl, hr.2, Nat.zero_le _⟩, fun b hb => by simp [Value.ownBlock] at hb⟩
theorem cell_of_list {w : World} {lo : Nat} {ad : Option Addr} {cap : Nat} {xs : List ByteArray} (h : SlA w lo 1 encT (.slice ad xs.length cap) xs) {k : Nat} (hk : k < xs.length) :
    ∃ bb off, ad = some ⟨bb, off, none⟩ ∧ bb < w.heap.size ∧ w.cell? ⟨bb, off + k, none⟩ = some (.string xs[k]) := by
  rcases h with ⟨a', c', e', hx', _⟩ | ⟨b', off', c', e', hp', hc', hm', hlo', hbb', hcell'⟩
  · rw [hx'] at hk; simp at hk
  · simp only [Value.slice.injEq] at e'
    obtain ⟨rfl, -, rfl⟩ := e'
    exact ⟨b', off', rfl, hbb', by simpa [encT] using hcell' k hk 0 (by omega)⟩
theorem cutB_size (c : UInt8) (s : ByteArray) : ∀ x ∈ cutB c s.data.toList, x.size ≤ s.size := by
  have h : ∀ (l : List UInt8) (p : List UInt8), p ∈ cutAt c l → p.length ≤ l.length := by
    intro l
    induction l with
    | nil => intro p hp; simp [cutAt] at hp; subst hp; simp
    | cons a l ih =>
      intro p hp
      obtain ⟨q, r, hq⟩ := cutAt_some c l
      rw [cutAt] at hp
      by_cases ha : a = c
      · rw [if_pos ha] at hp
        rcases List.mem_cons.1 hp with rfl | hp
        · simp
        · have := ih p hp; simp; omega
      · rw [if_neg ha, hq] at hp
        rw [hq] at ih
        rcases List.mem_cons.1 hp with rfl | hp
        · have := ih q (by simp); simp; omega
        · have := ih p (List.mem_cons_of_mem _ hp); simp; omega
  intro x hx
  obtain ⟨p, hp, rfl⟩ := List.mem_map.1 hx
  rw [bs_size]
  have := h _ p hp
  simpa using this
set_option maxHeartbeats 2000000 in
theorem c_impl_ReadList (s : ByteArray) (w : World) (hs : (s.size : Int) ≤ 1048576) (hr : Rd w) :
    Calls Tryz.prog 38 #[.string s] w (ListPost s.data.toList w) := by
  obtain ⟨i0, hi, iz0, iz1, iz2⟩ := info_parts info_Int64
  have htl : s.toList = s.data.toList := ByteArray.toList_eq ..
  cases hq : (s.toList == ([45] : List UInt8))
  rotate_left
  · have HR := hid (rd_dash (l := s.data.toList) (by rw [← htl]; exact hq))
    clear htl
    go_enter Tryz.func38, Tryz.ntmps38
    go_wp2
    go_ret2
    exact listPost_none (by (repeat' (first | (with_reducible exact Below.refl _ _) | (with_reducible refine Below.alloc ?_ ?_ _) | (with_reducible refine Below.drew ?_) | (with_reducible refine below_drewN ?_ _) | (with_reducible refine Below.setCell ?_ ?_ _) | (with_reducible refine below_via ‹_› ?_ ?_) | (with_reducible refine below_grow ?_ ?_ _ _) | omega | (simp; done) | (simp; omega)))) HR.out
  have hq' : (s.data.toList == [45]) = false := by rw [← htl]; exact hq
  have hrW := hr.at ((Below.refl w.heap.size w).alloc (Nat.le_refl _) (.cells #[] 2))
  have csp := c_Split 44 s _ hs hrW
  have hcs := cutB_size 44 s
  go_enter Tryz.func38, Tryz.ntmps38
  go_wp2_with fail
  refine csp.mono ?_
  rintro e w1 ⟨v, rfl, hb1, hS1⟩
  have hz1 := hb1.size
  simp at hz1
  have A1 := Acc.lit (α := Int) (W := w1) (w0 := w) (e := 2) (by simpa using hb1) 1 encI
  have hB1 : Below w.heap.size w w1 := by (repeat' (first | (with_reducible exact Below.refl _ _) | (with_reducible refine Below.alloc ?_ ?_ _) | (with_reducible refine Below.drew ?_) | (with_reducible refine below_drewN ?_ _) | (with_reducible refine Below.setCell ?_ ?_ _) | (with_reducible refine below_via ‹_› ?_ ?_) | (with_reducible refine below_grow ?_ ?_ _ _) | omega | (simp; done) | (simp; omega)))
  have hlen := cutB_len 44 s.data.toList
  have hls : s.data.toList.length = s.size := by simp
  obtain ⟨xs, hxs⟩ : ∃ xs, xs = cutB 44 s.data.toList := ⟨_, rfl⟩
  rw [← hxs] at hS1 hcs hlen
  have hP : rdP s.data.toList = xs := hxs.symm
  obtain ⟨ad, cap, rfl⟩ := hS1.1.form
  have hxl : xs.length ≤ 1048577 := by omega
  have HP := hid (And.intro hq' hP)
  have hne : ∀ b, (Value.slice ad xs.length cap).ownBlock = some b → b ≠ w.heap.size := fun b hb => by have := (hS1.2 b hb).2.1; simp at this; omega
  have HS := hid (And.intro hS1.1 hne)
  have HC := hid hcs
  have HRd := hid hr
  clear hS1 hne hcs hP hxs htl hq' hls hlen hr hrW
  go_wp2_with fail
  go_loopw [4, 15] (fun u i wr => ∃ k : Nat, k ≤ xs.length ∧ k ≤ 64 ∧ i = .int .i64 k ∧ Hid ((xs.take k).all okN = true) ∧ Acc w1 w.heap.size 2 1 encI wr u ((xs.take k).map numS)) (fun _ i _ => xs.length - (intOf i).toNat)
  case atStart => exact ⟨0, Nat.zero_le _, by omega, rfl, hid rfl, A1⟩
  case round =>
    clear A1
    obtain ⟨k, hk, hk64, rfl, hn, hA⟩ := hrel
    have hml : ((xs.take k).map numS).length = k := by simp; omega
    have hBr : Below w.heap.size w wr := hB1.trans hA.keep
    by_cases hlt : k < xs.length
    · have hlI : (k : Int) < xs.length := by omega
      obtain ⟨bb, off, rfl, hbb, hcl⟩ := cell_of_list (hA.sl HS.out.1 HS.out.2) hlt
      obtain ⟨x, hx⟩ : ∃ x, x = xs[k] := ⟨_, rfl⟩
      have hxs : (x.size : Int) ≤ 1048576 := by have := HC.out xs[k] (List.getElem_mem hlt); rw [← hx] at this; omega
      rw [← hx] at hcl
      have HX := hid hx
      have hI := numV_i64 x.data.toList
      have hrr := HRd.out.at hBr
      obtain ⟨adu, cpu, rfl⟩ := (hA.slo (fun _ => rfl)).1.form
      rw [hml] at hA ⊢
      cases hok : numB x.data.toList
      · have HR := hid (rd_bad HP.out.1 (by rw [HP.out.2]; exact all_false_at okN xs k hlt (by rw [← hx, okN, hok]; rfl)))
        clear hx
        go_wp2_with (first | (go_at_call 37; refine (c_ReadDecimal _ _ (by omega) (by first | (with_reducible assumption) | (with_reducible apply Rd.at; (with_reducible assumption); (repeat' (first | (with_reducible exact Below.refl _ _) | (with_reducible refine Below.alloc ?_ ?_ _) | (with_reducible refine Below.drew ?_) | (with_reducible refine below_drewN ?_ _) | (with_reducible refine Below.setCell ?_ ?_ _) | (with_reducible refine below_via ‹_› ?_ ?_) | (with_reducible refine below_grow ?_ ?_ _ _) | omega | (simp; done) | (simp; omega))); done))).mono ?_; rintro e w1 ⟨rfl, hb⟩; obtain ⟨hc, hf⟩ := bcell hb; have hz := hb.size; (try simp at hz); (try have hz0 : ∀ b, b < w.heap.size → b < w1.heap.size := fun b h => by omega); (try have hz1 : w.heap.size < w1.heap.size := by omega); (try have hz2 : w.heap.size + 1 < w1.heap.size := by omega); (try have hz3 : w.heap.size + 2 < w1.heap.size := by omega)))
        go_ret2
        exact listPost_none (hBr.trans (hb.mono hBr.size)) HR.out
      · cases hin : inB (numV x.data.toList) (-1000000000000) 1000000000000
        · have HR := hid (rd_bad HP.out.1 (by rw [HP.out.2]; exact all_false_at okN xs k hlt (by rw [← hx, okN, hok, numS, hin]; rfl)))
          clear hx
          go_wp2_with (first | (go_at_call 37; refine (c_ReadDecimal _ _ (by omega) (by first | (with_reducible assumption) | (with_reducible apply Rd.at; (with_reducible assumption); (repeat' (first | (with_reducible exact Below.refl _ _) | (with_reducible refine Below.alloc ?_ ?_ _) | (with_reducible refine Below.drew ?_) | (with_reducible refine below_drewN ?_ _) | (with_reducible refine Below.setCell ?_ ?_ _) | (with_reducible refine below_via ‹_› ?_ ?_) | (with_reducible refine below_grow ?_ ?_ _ _) | omega | (simp; done) | (simp; omega))); done))).mono ?_; rintro e w1 ⟨rfl, hb⟩; obtain ⟨hc, hf⟩ := bcell hb; have hz := hb.size; (try simp at hz); (try have hz0 : ∀ b, b < w.heap.size → b < w1.heap.size := fun b h => by omega); (try have hz1 : w.heap.size < w1.heap.size := by omega); (try have hz2 : w.heap.size + 1 < w1.heap.size := by omega); (try have hz3 : w.heap.size + 2 < w1.heap.size := by omega)) | (go_at_call 43; refine (c_within _ _ _ _).mono ?_; rintro e w' ⟨rfl, rfl⟩))
          go_ret2
          exact listPost_none (hBr.trans (hb.mono hBr.size)) HR.out
        · by_cases h64 : k = 64
          · have hz : ((k : Int) == 64) = true := by rw [h64]; rfl
            have HR := hid (rd_long HP.out.1 (by rw [HP.out.2]; omega))
            clear hx h64
            go_wp2_with (first | (go_at_call 37; refine (c_ReadDecimal _ _ (by omega) (by first | (with_reducible assumption) | (with_reducible apply Rd.at; (with_reducible assumption); (repeat' (first | (with_reducible exact Below.refl _ _) | (with_reducible refine Below.alloc ?_ ?_ _) | (with_reducible refine Below.drew ?_) | (with_reducible refine below_drewN ?_ _) | (with_reducible refine Below.setCell ?_ ?_ _) | (with_reducible refine below_via ‹_› ?_ ?_) | (with_reducible refine below_grow ?_ ?_ _ _) | omega | (simp; done) | (simp; omega))); done))).mono ?_; rintro e w1 ⟨rfl, hb⟩; obtain ⟨hc, hf⟩ := bcell hb; have hz := hb.size; (try simp at hz); (try have hz0 : ∀ b, b < w.heap.size → b < w1.heap.size := fun b h => by omega); (try have hz1 : w.heap.size < w1.heap.size := by omega); (try have hz2 : w.heap.size + 1 < w1.heap.size := by omega); (try have hz3 : w.heap.size + 2 < w1.heap.size := by omega)) | (go_at_call 43; refine (c_within _ _ _ _).mono ?_; rintro e w' ⟨rfl, rfl⟩))
            go_ret2
            exact listPost_none (hBr.trans (hb.mono hBr.size)) HR.out
          · have hz : ((k : Int) == 64) = false := by rw [beq_eq_false_iff_ne]; omega
            have HT := hid (show (xs.take (k + 1)).all okN = true by rw [all_take_snoc _ _ _ hlt, hn.out, ← hx, okN, hok, numS, hin]; rfl)
            have HM := hid (show (xs.take (k + 1)).map numS = (xs.take k).map numS ++ [numV x.data.toList] by rw [map_take_snoc _ _ _ hlt, ← hx]; rfl)
            clear hx
            go_wp2_with (first | (go_at_call 37; refine (c_ReadDecimal _ _ (by omega) (by first | (with_reducible assumption) | (with_reducible apply Rd.at; (with_reducible assumption); (repeat' (first | (with_reducible exact Below.refl _ _) | (with_reducible refine Below.alloc ?_ ?_ _) | (with_reducible refine Below.drew ?_) | (with_reducible refine below_drewN ?_ _) | (with_reducible refine Below.setCell ?_ ?_ _) | (with_reducible refine below_via ‹_› ?_ ?_) | (with_reducible refine below_grow ?_ ?_ _ _) | omega | (simp; done) | (simp; omega))); done))).mono ?_; rintro e w1 ⟨rfl, hb⟩; obtain ⟨hc, hf⟩ := bcell hb; have hz := hb.size; (try simp at hz); (try have hz0 : ∀ b, b < w.heap.size → b < w1.heap.size := fun b h => by omega); (try have hz1 : w.heap.size < w1.heap.size := by omega); (try have hz2 : w.heap.size + 1 < w1.heap.size := by omega); (try have hz3 : w.heap.size + 2 < w1.heap.size := by omega)) | (go_at_call 43; refine (c_within _ _ _ _).mono ?_; rintro e w' ⟨rfl, rfl⟩) | (at_builtin; refine wpList_push rfl (.tmp 36) (.tmp 38) 24 rfl i0 (.int .i64 0) 8 Tryz.underlying24 hi iz0 iz1 iz2 rfl (by decide) (fun _ => rfl) (numV x.data.toList) rfl hA (by (repeat' (first | (with_reducible exact Below.refl _ _) | (with_reducible refine Below.alloc ?_ ?_ _) | (with_reducible refine Below.drew ?_) | (with_reducible refine below_drewN ?_ _) | (with_reducible refine Below.setCell ?_ ?_ _) | (with_reducible refine below_via ‹_› ?_ ?_) | (with_reducible refine below_grow ?_ ?_ _ _) | omega | (simp; done) | (simp; omega)))) 2 1 rfl (one_encI _) (by unfold maxLen; omega) (by omega) ?_; intro v2 w2 hA2))
            go_roundw
            case rel => exact ⟨k + 1, by omega, by omega, by go_num, HT, by rw [HM.out]; exact hA2⟩
            case measure => simp [intOf]; omega
    · have hke : k = xs.length := by omega
      have hlI : ¬ (k : Int) < xs.length := by omega
      rw [hke, List.take_length] at hA hn
      have hD := hA.done (fun _ => rfl) hB1 (Nat.le_refl _)
      have HR := hid (rd_ok HP.out.1 (by rw [HP.out.2]; omega) (by rw [HP.out.2]; exact hn.out))
      rw [HP.out.2] at HR
      clear hA hn hml
      go_wp2_with fail
      go_ret2
      exact ⟨_, by rw [HR.out.1]; rfl, hBr, by rw [HR.out.2]; exact hD.2⟩
end Go.Proofs.YtabbhlehbhadiaaGreatDoor
namespace Go.Proofs.YtabbhlehbhadiaaGreatDoor
open Go.RowKit Go.Sort
set_option linter.unusedVariables false

theorem itoa_chars (n : Int) : ∀ c ∈ Lib.itoa n, c = 45 ∨ (48 ≤ c.toNat ∧ c.toNat ≤ 57) := by
  intro c hc
  unfold Lib.itoa at hc
  split at hc
  · rcases List.mem_cons.1 hc with rfl | hc
    · exact .inl rfl
    · exact .inr (dec_digits _ c hc)
  · exact .inr (dec_digits _ c hc)
theorem itoa_no {n : Int} {c : UInt8} (h : c ≠ 45) (h2 : ¬ (48 ≤ c.toNat ∧ c.toNat ≤ 57)) : c ∉ Lib.itoa n := fun e => by
  rcases itoa_chars n c e with h3 | h3
  · exact h h3
  · exact h2 h3
theorem itoa_no44 (n : Int) : (44 : UInt8) ∉ Lib.itoa n := itoa_no (by decide) (by decide)
theorem itoa_no32 (n : Int) : (32 : UInt8) ∉ Lib.itoa n := itoa_no (by decide) (by decide)
theorem itoa_dash (n : Int) : Lib.itoa n ≠ [45] := by
  have hd : ∀ u, Lib.decDigits u ≠ [] := fun u e => by
    have h1 := Lib.nDigits_pos u
    rw [← Lib.decDigits_length, e] at h1
    simp at h1
  unfold Lib.itoa
  split
  · intro e; injection e with _ e; exact hd _ e
  · intro e
    have := dec_digits n.toNat 45 (by rw [e]; simp)
    simp at this
theorem num_itoa {n : Int} (h : -1000000000000 ≤ n ∧ n ≤ 1000000000000) : numL (Lib.itoa n) = some n := (numL_iff _ _).2 ⟨rfl, by omega⟩
theorem numsL_no32 (xs : List Int) : (32 : UInt8) ∉ numsL xs := by
  intro h
  cases xs with
  | nil => simp [numsL, jn] at h
  | cons x r =>
    simp only [numsL, List.map_cons, jn, List.mem_append, List.mem_flatten, List.mem_map] at h
    rcases h with h | ⟨p, ⟨q, ⟨y, hy, rfl⟩, rfl⟩, hp⟩
    · exact itoa_no32 x h
    · rcases List.mem_cons.1 hp with hp | hp
      · exact absurd hp (by decide)
      · exact itoa_no32 y hp
theorem listL_no32 (xs : List Int) : (32 : UInt8) ∉ listL xs := by
  unfold listL; split
  · decide
  · exact numsL_no32 xs
theorem listL_ne (xs : List Int) : listL xs ≠ [] := by
  unfold listL
  split
  · simp
  · rename_i h
    cases xs with
    | nil => exact absurd rfl h
    | cons x r => simp only [numsL, List.map_cons, jn]; intro e; exact itoa_ne x (List.append_eq_nil_iff.1 e).1
theorem rdP_ne (l : List UInt8) : rdP l ≠ [] := by
  obtain ⟨p, r, h⟩ := cutAt_some 44 l
  simp [rdP, cutB, h]
theorem rd_iff (l : List UInt8) (xs : List Int) : (rdB l = true ∧ rdX l = xs) ↔ (listL xs = l ∧ fitsB xs = true) := by
  constructor
  · rintro ⟨h1, h2⟩
    cases hq : (l == [45])
    · have h3 : (decide ((rdP l).length ≤ 64) && (rdP l).all okN) = true := by rw [rdB, hq] at h1; simpa using h1
      obtain ⟨h4, h5⟩ := (Bool.and_eq_true _ _).mp h3
      have h4 : (rdP l).length ≤ 64 := of_decide_eq_true h4
      rw [(rd_ok hq h4 h5).2] at h2
      have hne : xs ≠ [] := by rw [← h2]; intro e; exact rdP_ne l (List.map_eq_nil_iff.1 e)
      have hok := List.all_eq_true.1 h5
      have hmap : xs.map Lib.itoa = cutAt 44 l := by
        rw [← h2, List.map_map]
        have e1 : (rdP l).map (Lib.itoa ∘ numS) = (rdP l).map (fun x => x.data.toList) := List.map_congr_left fun x hx => by
          have := hok x hx
          simp only [okN, Bool.and_eq_true] at this
          exact ((numL_iff _ _).1 (num_of_true this.1)).1
        rw [e1, rdP, cutB, List.map_map]
        conv => rhs; rw [← List.map_id (cutAt 44 l)]
        exact List.map_congr_left fun p _ => bs_list p
      refine ⟨?_, ?_⟩
      · rw [listL, if_neg hne, numsL, hmap, jn_cutAt]
      · simp only [fitsB, Bool.and_eq_true, decide_eq_true_eq, List.all_eq_true]
        refine ⟨by rw [← h2, List.length_map]; omega, fun x hx => ?_⟩
        rw [← h2] at hx
        obtain ⟨y, hy, rfl⟩ := List.mem_map.1 hx
        have := hok y hy
        simp only [okN, Bool.and_eq_true] at this
        exact this.2
    · rw [(rd_dash hq).2] at h2
      subst h2
      exact ⟨(beq_iff_eq.1 hq).symm, rfl⟩
  · rintro ⟨rfl, h2⟩
    by_cases h0 : xs = []
    · subst h0; exact rd_dash rfl
    · simp only [fitsB, Bool.and_eq_true, decide_eq_true_eq, List.all_eq_true] at h2
      obtain ⟨h3, h4⟩ := h2
      have hl : listL xs = numsL xs := by rw [listL, if_neg h0]
      have hcut : cutAt 44 (numsL xs) = xs.map Lib.itoa := cutAt_jn 44 _ (by simpa using h0) (fun p hp => by obtain ⟨x, _, rfl⟩ := List.mem_map.1 hp; exact itoa_no44 x)
      have hP : rdP (numsL xs) = xs.map fun x => bs (Lib.itoa x) := by rw [rdP, cutB, hcut, List.map_map]; rfl
      have hq : (numsL xs == [45]) = false := by
        rw [beq_eq_false_iff_ne]
        intro e
        have e2 : cutAt 44 (numsL xs) = [[45]] := by rw [e]; rfl
        rw [hcut] at e2
        cases xs with
        | nil => exact h0 rfl
        | cons x r => injection e2 with e2; exact itoa_dash x e2
      have hone : ∀ x ∈ xs, numS (bs (Lib.itoa x)) = x ∧ okN (bs (Lib.itoa x)) = true := fun x hx => by
        have hr := h4 x hx
        have hn := num_some (num_itoa (inB_true hr))
        refine ⟨by rw [numS, bs_list, hn.1], ?_⟩
        rw [okN, numS, bs_list, hn.1, hn.2, hr]; rfl
      have hall : (rdP (numsL xs)).all okN = true := by
        rw [hP, List.all_eq_true]
        intro y hy
        obtain ⟨x, hx, rfl⟩ := List.mem_map.1 hy
        exact (hone x hx).2
      have hr := rd_ok (l := numsL xs) hq (by rw [hP, List.length_map]; omega) hall
      rw [hl]
      refine ⟨hr.1, ?_⟩
      rw [hr.2, hP, List.map_map]
      conv => rhs; rw [← List.map_id xs]
      exact List.map_congr_left fun x hx => (hone x hx).1
/-- names hold no blank and are not empty -/
theorem name_no32 {s : ByteArray} (h : nameB s = true) : (32 : UInt8) ∉ s.data.toList ∧ s.data.toList ≠ [] := by
  simp only [nameB, Bool.and_eq_true, List.all_eq_true, ByteArray.toList_eq] at h
  obtain ⟨⟨⟨h0, _⟩, _⟩, h1⟩ := h
  refine ⟨fun e => ?_, fun e => by rw [e] at h0; simp at h0⟩
  have := h1 32 e
  revert this
  decide
end Go.Proofs.YtabbhlehbhadiaaGreatDoor
