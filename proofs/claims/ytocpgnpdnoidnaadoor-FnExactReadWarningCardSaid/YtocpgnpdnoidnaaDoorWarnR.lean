/- A warning read, both sides. -/
import Derived.Test.YtocpgnpdnoidnaaDoorWarnRd
import Derived.Test.YtocpgnpdnoidnaaDoorSplit
import Derived.Test.YtocpgnpdnoidnaaDoorDraw0
import Derived.Deep.RegionHeld3
namespace Go.Proofs.YtocpgnpdnoidnaaDoor
open Go.RowKit Go.Sort
set_option linter.unusedVariables false
set_option maxRecDepth 100000

def zWrn : WarningD := ⟨0, 0, 0, 0, 0, 0, 0, ⟨#[]⟩⟩
def wrnV (d : WarningD) : Value := .agg #[.int .i64 d.fNumber, .int .i64 d.fPriority, .int .i64 d.fFrom, .int .i64 d.fUntil, .int .i64 d.fAtX, .int .i64 d.fAtY, .int .i64 d.fRadius, .string d.fWords]
def WrnPost (o : Option WarningD) (w : World) (e : Ending) (w' : World) : Prop := Below w.heap.size w w' ∧ e = .returned (.tuple #[wrnV (o.getD zWrn), .bool o.isSome])
theorem wrnPost_none {o : Option WarningD} {w w' : World} (hb : Below w.heap.size w w') (h : o = none) : WrnPost o w (.returned (.tuple #[.agg #[.int .i64 0, .int .i64 0, .int .i64 0, .int .i64 0, .int .i64 0, .int .i64 0, .int .i64 0, .string ⟨#[]⟩], .bool false])) w' := by subst h; exact ⟨hb, rfl⟩
theorem wrnPost_some {o : Option WarningD} {w w' : World} {n p f u x y r : Int} {s : ByteArray} (hb : Below w.heap.size w w') (h : o = some ⟨n, p, f, u, x, y, r, s⟩) : WrnPost o w (.returned (.tuple #[.agg #[.int .i64 n, .int .i64 p, .int .i64 f, .int .i64 u, .int .i64 x, .int .i64 y, .int .i64 r, .string s], .bool true])) w' := by subst h; exact ⟨hb, rfl⟩
theorem wrd7_no {c : WarningD → Bool} {a p f u t r ws : ByteArray} (h : wOk a f u t r = false) : wrd7 c [a, p, f, u, t, r, ws] = none := by simp only [wrd7, h]; rfl
theorem pcs_step {l : List UInt8} {g k m : Nat} {ps : List (List UInt8)} (hgk : g ≤ k) (hk : k < l.length) (hm : m = 6 - ps.length) (hp : ps.length < 6) (hn : (32 : UInt8) ∉ (l.drop g).take (k - g)) (hc : l[k] = 32) (h : ps ++ Lib.splitK [32] 0 m (l.drop g) = Lib.splitK [32] 0 6 l) :
    (ps ++ [(l.drop g).take (k - g)]) ++ Lib.splitK [32] 0 (6 - (ps ++ [(l.drop g).take (k - g)]).length) (l.drop (k + 1)) = Lib.splitK [32] 0 6 l := by
  have e1 : m = (6 - (ps.length + 1)) + 1 := by omega
  have hj : k - g < (l.drop g).length := by rw [List.length_drop]; omega
  have e2 : (l.drop g)[k - g] = 32 := by rw [List.getElem_drop]; simpa [show g + (k - g) = k by omega] using hc
  have h2 := spK_here hj hn e2 (6 - (ps.length + 1))
  rw [← h, e1, h2, List.length_append, List.length_singleton, List.drop_drop, show g + (k - g + 1) = k + 1 by omega]
  simp
theorem spK_size : ∀ (k : Nat) (l x : List UInt8), x ∈ Lib.splitK [32] 0 k l → x.length ≤ l.length
  | 0, l, x, h => by simp [Lib.splitK] at h; subst h; exact Nat.le_refl _
  | k + 1, l, x, h => by
    rcases spK_cases k l with e | ⟨i, h1, h2, h3⟩
    · rw [e] at h; simp at h; subst h; exact Nat.le_refl _
    · rw [h3] at h
      rcases List.mem_cons.1 h with rfl | h
      · rw [List.length_take]; omega
      · have := spK_size k _ x h
        rw [List.length_drop] at this; omega
theorem pcs_size (s : ByteArray) : ∀ x ∈ pcs s.data.toList, x.size ≤ s.size := by
  intro x hx
  obtain ⟨y, hy, rfl⟩ := List.mem_map.1 hx
  have := spK_size 6 _ y hy
  rw [bs_size]
  simpa using this
set_option maxHeartbeats 16000000 in
theorem c_l22Read (s : ByteArray) (w : World) (hs : (s.size : Int) ≤ 1048576) :
    Calls Tryd.prog 44 #[.string s] w (WrnPost (wrnRd s) w) := by
  obtain ⟨i0, hi, iz0, iz1, iz2⟩ := info_parts info_string
  obtain ⟨l, hl⟩ : ∃ l, l = s.data.toList := ⟨_, rfl⟩
  have hll : l.length = s.size := by rw [hl]; simp
  obtain ⟨W1, hW1⟩ : ∃ W1, W1 = w.alloc (.cells #[.int .i64 0, .int .i64 0, .int .i64 0, .int .i64 0, .int .i64 0, .int .i64 0, .int .i64 0, .string ⟨#[]⟩] 30) := ⟨_, rfl⟩
  obtain ⟨g0, hg0⟩ : ∃ g, g = w.heap.size := ⟨_, rfl⟩
  have hbk1 : Bk W1 g0 30 [.int .i64 0, .int .i64 0, .int .i64 0, .int .i64 0, .int .i64 0, .int .i64 0, .int .i64 0, .string ⟨#[]⟩] := by rw [hW1, hg0]; exact (by (repeat' (first | (with_reducible exact Bk.new _ _ _) | (with_reducible refine Bk.new1 ?_; first | rfl | (simp; done) | omega) | (with_reducible assumption) | (with_reducible refine Bk.alloc ?_ _) | (with_reducible refine Bk.drew ?_) | (with_reducible refine Bk.drewN ?_ _) | (with_reducible refine Bk.other ?_ ?_ _) | (with_reducible apply Bk.drewBy; with_reducible assumption) | (with_reducible apply Bk.viaB; with_reducible assumption) | omega | (simp; done))))
  have hB1 : Below w.heap.size w W1 := by rw [hW1]; (repeat' (first | (with_reducible exact Below.refl _ _) | (with_reducible refine Below.alloc ?_ ?_ _) | (with_reducible refine Below.drew ?_) | (with_reducible refine below_drewN ?_ _) | (with_reducible refine Below.setCell ?_ ?_ _) | (with_reducible refine below_via ‹_› ?_ ?_) | (with_reducible refine below_grow ?_ ?_ _ _) | omega | (simp; done) | (simp; omega)))
  have A1 := Acc.lit (α := ByteArray) (W := W1.alloc (.cells #[] 9)) (w0 := W1) (e := 9) (Below.refl _ _) 1 encT
  obtain ⟨W, hW⟩ : ∃ W, W = W1.alloc (.cells #[] 9) := ⟨_, rfl⟩
  rw [← hW] at A1
  have hBW : Below W1.heap.size W1 W := by rw [hW]; exact (Below.refl _ _).alloc (Nat.le_refl _) _
  have hzW : W1.heap.size < W.heap.size := by rw [hW]; simp
  have hs1 : W1.heap.size = g0 + 1 := by rw [hW1, hg0]; simp
  rw [hs1] at A1 hzW hBW
  have hz1 : g0 < W1.heap.size := hbk1.lt
  have HG := hid (show ∀ k (h : k < s.size) (h' : k < l.length), l[k] = s[k] from fun k h h' => by subst hl; exact data_get s k h)
  have HL := hid hl
  have HW := hid hW
  have HW1 := hid hW1
  have HG0 := hid hg0
  have HS1 := hid hs1
  have hgw : w.heap.size ≤ g0 := by omega
  clear hW hl hW1 hg0 hs1 hz1
  go_enter Tryd.func44, Tryd.ntmps44
  go_wp2_with fail
  rw [← HW1.out, ← HW.out]
  (try rw [← HG0.out])
  go_loopw [4, 5, 6] (fun u f i wr => ∃ (k g : Nat) (ps : List (List UInt8)), k ≤ s.size ∧ g ≤ k ∧ f = .int .i64 g ∧ i = .int .i64 k ∧ (32 : UInt8) ∉ (l.drop g).take (k - g) ∧ ps.length ≤ 6 ∧ Hid (ps ++ Lib.splitK [32] 0 (6 - ps.length) (l.drop g) = Lib.splitK [32] 0 6 l) ∧ Acc W (g0 + 1) 9 1 encT wr u (ps.map bs)) (fun _ _ i _ => s.size - (intOf i).toNat)
  case atStart => exact ⟨0, 0, [], Nat.zero_le _, Nat.le_refl _, rfl, rfl, by simp, by simp, hid (by simp), A1⟩
  case round =>
    clear A1
    obtain ⟨k, g, ps, hk, hgk, rfl, rfl, hn, hp6, hP, hA⟩ := hrel
    have hgI : (g : Int) ≤ k := by omega
    obtain ⟨xs, hxs⟩ : ∃ xs, xs = ps.map bs := ⟨_, rfl⟩
    have hxl : xs.length = ps.length := by rw [hxs, List.length_map]
    rw [← hxs] at hA
    have HXS := hid hxs
    have hx6 : xs.length ≤ 6 := by omega
    have HXL := hid hxl
    obtain ⟨adx, cpx, rfl⟩ := (hA.slo (fun _ => rfl)).1.form
    clear hxs hxl
    by_cases hgo : k < s.size ∧ xs.length < 6
    · obtain ⟨hlt, hm⟩ := hgo
      have hlI : (k : Int) < s.size := by omega
      have hmI : (xs.length : Int) < 6 := by omega
      have hkl : k < l.length := by omega
      have hlk : l[k] = s[k] := HG.out k hlt hkl
      cases hc : ((s[k].toNat : Int) == 32)
      · have hne : l[k] ≠ 32 := by rw [hlk]; intro e; rw [e] at hc; simp at hc
        have HN := hid (show (32 : UInt8) ∉ (l.drop g).take (k + 1 - g) by
          rw [take_more hgk hkl]
          intro hm
          rcases List.mem_append.1 hm with hm | hm
          · exact hn hm
          · exact hne (List.mem_singleton.1 hm).symm)
        clear hn hlk hne
        go_wp2
        go_roundw
        case rel => exact ⟨k + 1, g, ps, by omega, by omega, rfl, by go_num, HN.out, hp6, hP, by rw [← HXS.out]; exact hA⟩
        case measure => simp [intOf]; omega
      · have heq : l[k] = 32 := by
          rw [hlk]; have h1 : (s[k].toNat : Int) = 32 := by simpa using hc
          exact UInt8.toNat_inj.1 (by have : (32 : UInt8).toNat = 32 := rfl
                                      omega)
        have HE := hid (show s.extract g k = bs ((l.drop g).take (k - g)) by rw [ext_bs, HL.out])
        have HP2 := hid (pcs_step hgk hkl rfl (by have := HXL.out; omega) hn heq hP.out)
        clear hn heq hlk
        have hw1 : IntKind.i64.wrap ((k : Int) + 1) = (k : Int) + 1 := IntWalk.i64_in _ (by omega)
        obtain ⟨q, hq⟩ : ∃ q, q = s.extract g k := ⟨_, rfl⟩
        have HQ := hid (show (ps ++ [(l.drop g).take (k - g)]).map bs = xs ++ [q] by rw [hq, HE.out, HXS.out]; simp)
        have HQ2 := hid hq
        have hl7 : (ps ++ [(l.drop g).take (k - g)]).length ≤ 6 := by rw [List.length_append, List.length_singleton]; have := HXL.out; omega
        clear hq
        go_wp2_with (first | (at_builtin; rw [← HQ2.out]; (at_builtin; refine wpList_push rfl (.tmp 35) (.tmp 40) 65 rfl i0 (.string ⟨#[]⟩) 16 Tryd.underlying65 hi iz0 iz1 iz2 rfl (by decide) (fun _ => rfl) q rfl hA (by (repeat' (first | (with_reducible exact Below.refl _ _) | (with_reducible refine Below.alloc ?_ ?_ _) | (with_reducible refine Below.drew ?_) | (with_reducible refine below_drewN ?_ _) | (with_reducible refine Below.setCell ?_ ?_ _) | (with_reducible refine below_via ‹_› ?_ ?_) | (with_reducible refine below_grow ?_ ?_ _ _) | omega | (simp; done) | (simp; omega)))) 9 1 rfl (one_encT _) (by unfold maxLen; omega) (by omega) ?_; intro v1 w1 hA1)))
        go_roundw
        case rel => exact ⟨k + 1, k + 1, ps ++ [(l.drop g).take (k - g)], by omega, Nat.le_refl _, by go_num, by go_num, by simp, hl7, HP2, by rw [HQ.out]; exact hA1⟩
        case measure => simp [intOf]; omega
    · by_cases hm : xs.length < 6
      · have hks : k = s.size := by omega
        have hlI : ¬ (k : Int) < s.size := by omega
        have hmI : (xs.length : Int) < 6 := by omega
        have hlen : (l.drop g).take (k - g) = l.drop g := List.take_of_length_le (by rw [List.length_drop]; omega)
        rw [hlen] at hn
        have HR := hid (show wrnRd s = none by
          refine wrd7_len (fun e => ?_)
          have h := hP.out
          rw [spK_miss hn] at h
          have h2 := congrArg List.length h
          rw [pcs, List.length_map, ← HL.out, ← h2, List.length_append, List.length_singleton] at e
          have := HXL.out; omega)
        have hbk : Bk wr g0 30 [.int .i64 0, .int .i64 0, .int .i64 0, .int .i64 0, .int .i64 0, .int .i64 0, .int .i64 0, .string ⟨#[]⟩] := by
          have h1 := hbk1.below (by rw [HS1.out]; exact hBW)
          exact (hA.fr.block g0 h1.lt (fun e => by injection e with e; omega)).trans h1
        have b0 := hbk.cell 0 rfl
        have b1 := hbk.cell 1 rfl
        have b2 := hbk.cell 2 rfl
        have b3 := hbk.cell 3 rfl
        have b4 := hbk.cell 4 rfl
        have b5 := hbk.cell 5 rfl
        have b6 := hbk.cell 6 rfl
        have b7 := hbk.cell 7 rfl
        have fx := hbk.fr
        have hB2 : Below w.heap.size w wr := hB1.trans ((hBW.trans hA.keep).mono (by have := HS1.out; have := hB1.size; omega))
        have hgr := hbk.lt
        clear hn hlen hks hbk hP
        go_wp2_with fail
        have hBf : Below w.heap.size w wr := hB2
        refine bodyPost_ret (v := .tuple #[.agg #[.int .i64 0, .int .i64 0, .int .i64 0, .int .i64 0, .int .i64 0, .int .i64 0, .int .i64 0, .string ⟨#[]⟩], .bool false]) (by simp [results, Tryd.results44, go_sem, *]) rfl (wrnPost_none (by have := HG0.out; (repeat' (first | (with_reducible exact Below.refl _ _) | (with_reducible refine Below.alloc ?_ ?_ _) | (with_reducible refine Below.drew ?_) | (with_reducible refine below_drewN ?_ _) | (with_reducible refine Below.setCell ?_ ?_ _) | (with_reducible refine below_via ‹_› ?_ ?_) | (with_reducible refine below_grow ?_ ?_ _ _) | omega | (simp; done) | (simp; omega)))) HR.out)
      · have h6 : xs.length = 6 := by omega
        obtain ⟨ws, hws⟩ : ∃ q, q = s.extract g s.size := ⟨_, rfl⟩
        have hpc : pcs s.data.toList = xs ++ [ws] := by
          have h := hP.out
          have e6 : 6 - ps.length = 0 := by have := HXL.out; omega
          rw [e6, Lib.splitK] at h
          rw [pcs, ← HL.out, ← h, List.map_append, ← HXS.out, hws, ext_bs, ← HL.out, List.take_of_length_le (by rw [List.length_drop]; omega)]; rfl
        have hsz := pcs_size s
        obtain ⟨a, p, f, u, t, r, rfl⟩ := six_of h6
        rw [hpc] at hsz
        have hsa : (a.size : Int) ≤ 1048576 := by have := hsz a (by simp); omega
        have hsf : (f.size : Int) ≤ 1048576 := by have := hsz f (by simp); omega
        have hsu : (u.size : Int) ≤ 1048576 := by have := hsz u (by simp); omega
        have hst : (t.size : Int) ≤ 1048576 := by have := hsz t (by simp); omega
        have hsr : (r.size : Int) ≤ 1048576 := by have := hsz r (by simp); omega
        have hwss : ws.size ≤ maxLen := by have := hsz ws (by simp); unfold maxLen; omega
        have HRd := hid (show wrnRd s = wrd7 warnD [a, p, f, u, t, r, ws] by rw [wrnRd, hpc]; rfl)
        have HWS := hid hws
        obtain ⟨bb, off, rfl, hlo, hbb, hcl⟩ := cell_str (hA.slo (fun _ => rfl)).1 rfl (k := 0) (by simp)
        have hbk : Bk wr g0 30 [.int .i64 0, .int .i64 0, .int .i64 0, .int .i64 0, .int .i64 0, .int .i64 0, .int .i64 0, .string ⟨#[]⟩] := by
          have h1 := hbk1.below (by rw [HS1.out]; exact hBW)
          exact (hA.fr.block g0 h1.lt (fun e => by injection e with e; omega)).trans h1
        have hB2 : Below w.heap.size w wr := hB1.trans ((hBW.trans hA.keep).mono (by have := HS1.out; have := hB1.size; omega))
        have hgr := hbk.lt
        have d0 := hcl 0 (by simp)
        have d1 := hcl 1 (by simp)
        have d2 := hcl 2 (by simp)
        have d3 := hcl 3 (by simp)
        have d4 := hcl 4 (by simp)
        have d5 := hcl 5 (by simp)
        simp only [List.getElem_cons_zero, List.getElem_cons_succ, Nat.add_zero] at d0 d1 d2 d3 d4 d5
        have ca := fun w' => c_l01Number a w' hsa
        have cf := fun w' => c_l01Number f w' hsf
        have cu := fun w' => c_l01Number u w' hsu
        have cr := fun w' => c_l01Number r w' hsr
        have ct := fun w' => c_l02Read t w' hst
        have hwk : wOk a f u t r = (numB a.data.toList && numB f.data.toList && numB u.data.toList && ptB t.data.toList && numB r.data.toList) := rfl
        have hwd : wD a p f u t r ws = ⟨numV a.data.toList, prioK p 3, numV f.data.toList, numV u.data.toList, ptX t.data.toList, ptY t.data.toList, numV r.data.toList, ws⟩ := rfl
        obtain ⟨na, hna⟩ : ∃ z, z = numV a.data.toList := ⟨_, rfl⟩
        obtain ⟨nf, hnf⟩ : ∃ z, z = numV f.data.toList := ⟨_, rfl⟩
        obtain ⟨nu, hnu⟩ : ∃ z, z = numV u.data.toList := ⟨_, rfl⟩
        obtain ⟨nr, hnr⟩ : ∃ z, z = numV r.data.toList := ⟨_, rfl⟩
        obtain ⟨nx, hnx⟩ : ∃ z, z = ptX t.data.toList := ⟨_, rfl⟩
        obtain ⟨ny, hny⟩ : ∃ z, z = ptY t.data.toList := ⟨_, rfl⟩
        obtain ⟨oa, hoa⟩ : ∃ z, z = numB a.data.toList := ⟨_, rfl⟩
        obtain ⟨of', hof⟩ : ∃ z, z = numB f.data.toList := ⟨_, rfl⟩
        obtain ⟨ou, hou⟩ : ∃ z, z = numB u.data.toList := ⟨_, rfl⟩
        obtain ⟨ot, hot⟩ : ∃ z, z = ptB t.data.toList := ⟨_, rfl⟩
        obtain ⟨or', hor⟩ : ∃ z, z = numB r.data.toList := ⟨_, rfl⟩
        rw [← hoa, ← hof, ← hou, ← hot, ← hor] at hwk
        rw [← hna, ← hnf, ← hnu, ← hnx, ← hny, ← hnr] at hwd
        rw [← hna, ← hoa] at ca
        rw [← hnf, ← hof] at cf
        rw [← hnu, ← hou] at cu
        rw [← hnr, ← hor] at cr
        unfold PtPost at ct
        rw [← hnx, ← hny, ← hot] at ct
        have HWK := hid hwk
        have HWD := hid hwd
        have hgs : (g : Int) ≤ s.size := by omega
        have hgs2 : g ≤ s.size := by omega
        have HBK := hid hbk
        clear hws hpc hsz hcl hA hP hwk hwd hna hnf hnu hnr hnx hny hoa hof hou hot hor hbk hgo hm hn h6 HXL HXS
        cases hd : decide (k < s.size)
        all_goals
          go_wp2_with fail
          obtain ⟨X, hX⟩ : ∃ z, z = wr.heap.size := ⟨_, rfl⟩
          obtain ⟨W2, hW2⟩ : ∃ z, z = wr.alloc (.cells #[.int .i64 0, .int .i64 0, .int .i64 0, .int .i64 0, .int .i64 0, .int .i64 0, .int .i64 0, .string (s.extract g s.size)] 30) := ⟨_, rfl⟩
          rw [← hW2]
          (try rw [← hX])
          rw [← HWS.out] at hW2
          have hbX : Bk W2 X 30 [.int .i64 0, .int .i64 0, .int .i64 0, .int .i64 0, .int .i64 0, .int .i64 0, .int .i64 0, .string ws] := by rw [hW2, hX]; exact (by (repeat' (first | (with_reducible exact Bk.new _ _ _) | (with_reducible refine Bk.new1 ?_; first | rfl | (simp; done) | omega) | (with_reducible assumption) | (with_reducible refine Bk.alloc ?_ _) | (with_reducible refine Bk.drew ?_) | (with_reducible refine Bk.drewN ?_ _) | (with_reducible refine Bk.other ?_ ?_ _) | (with_reducible apply Bk.drewBy; with_reducible assumption) | (with_reducible apply Bk.viaB; with_reducible assumption) | omega | (simp; done))))
          have hbg : Bk W2 g0 30 [.int .i64 0, .int .i64 0, .int .i64 0, .int .i64 0, .int .i64 0, .int .i64 0, .int .i64 0, .string ⟨#[]⟩] := by rw [hW2]; have := HBK.out; exact (by (repeat' (first | (with_reducible exact Bk.new _ _ _) | (with_reducible refine Bk.new1 ?_; first | rfl | (simp; done) | omega) | (with_reducible assumption) | (with_reducible refine Bk.alloc ?_ _) | (with_reducible refine Bk.drew ?_) | (with_reducible refine Bk.drewN ?_ _) | (with_reducible refine Bk.other ?_ ?_ _) | (with_reducible apply Bk.drewBy; with_reducible assumption) | (with_reducible apply Bk.viaB; with_reducible assumption) | omega | (simp; done))))
          have hBr : Below wr.heap.size wr W2 := by rw [hW2]; (repeat' (first | (with_reducible exact Below.refl _ _) | (with_reducible refine Below.alloc ?_ ?_ _) | (with_reducible refine Below.drew ?_) | (with_reducible refine below_drewN ?_ _) | (with_reducible refine Below.setCell ?_ ?_ _) | (with_reducible refine below_via ‹_› ?_ ?_) | (with_reducible refine below_grow ?_ ?_ _ _) | omega | (simp; done) | (simp; omega)))
          have hB3 : Below w.heap.size w W2 := hB2.trans (hBr.mono hB2.size)
          have hxg : g0 < X := by omega
          have hbX2 : bb < X := by omega
          have hg02 : g0 + 1 ≤ bb := hlo
          have d0 := below_cell hBr hbb d0
          have d1 := below_cell hBr hbb d1
          have d2 := below_cell hBr hbb d2
          have d3 := below_cell hBr hbb d3
          have d4 := below_cell hBr hbb d4
          have d5 := below_cell hBr hbb d5
          clear hW2 hX
          refine (ca _).mono ?_
          rintro e w' ⟨rfl, rfl⟩
          go_wp2_with fail
          refine (cf _).mono ?_
          rintro e w' ⟨rfl, rfl⟩
          go_wp2_with fail
          refine (cu _).mono ?_
          rintro e w' ⟨rfl, rfl⟩
          go_wp2_with fail
          refine (ct _).mono ?_
          rintro e w3 ⟨rfl, hb3⟩
          have hz3 := hb3.size
          have d1 := below_cell hb3 (by have := hbX.lt; omega) d1
          have d5 := below_cell hb3 (by have := hbX.lt; omega) d5
          have hbX3 := hbX.below hb3
          have hbg3 := hbg.below hb3
          have hB33 : Below w.heap.size w w3 := hB3.trans (hb3.mono hB3.size)
          have hb3lt : bb < w3.heap.size := by have := hbX.lt; omega
          clear d0 d2 d3 d4 ca cf cu ct hbX hbg hb3
          go_wp2_with fail
          refine (cr _).mono ?_
          rintro e w' ⟨rfl, rfl⟩
          obtain ⟨Y, hY⟩ : ∃ z, z = w3.heap.size := ⟨_, rfl⟩
          obtain ⟨W4, hW4⟩ : ∃ z, z = w3.alloc (.cells #[.int .i64 nx, .int .i64 ny] 28) := ⟨_, rfl⟩
          rw [← hW4]
          (try rw [← hY])
          have hbX4 : Bk W4 X 30 [.int .i64 0, .int .i64 0, .int .i64 0, .int .i64 0, .int .i64 0, .int .i64 0, .int .i64 0, .string ws] := by rw [hW4]; exact (by (repeat' (first | (with_reducible exact Bk.new _ _ _) | (with_reducible refine Bk.new1 ?_; first | rfl | (simp; done) | omega) | (with_reducible assumption) | (with_reducible refine Bk.alloc ?_ _) | (with_reducible refine Bk.drew ?_) | (with_reducible refine Bk.drewN ?_ _) | (with_reducible refine Bk.other ?_ ?_ _) | (with_reducible apply Bk.drewBy; with_reducible assumption) | (with_reducible apply Bk.viaB; with_reducible assumption) | omega | (simp; done))))
          have hbg4 : Bk W4 g0 30 [.int .i64 0, .int .i64 0, .int .i64 0, .int .i64 0, .int .i64 0, .int .i64 0, .int .i64 0, .string ⟨#[]⟩] := by rw [hW4]; exact (by (repeat' (first | (with_reducible exact Bk.new _ _ _) | (with_reducible refine Bk.new1 ?_; first | rfl | (simp; done) | omega) | (with_reducible assumption) | (with_reducible refine Bk.alloc ?_ _) | (with_reducible refine Bk.drew ?_) | (with_reducible refine Bk.drewN ?_ _) | (with_reducible refine Bk.other ?_ ?_ _) | (with_reducible apply Bk.drewBy; with_reducible assumption) | (with_reducible apply Bk.viaB; with_reducible assumption) | omega | (simp; done))))
          have hbY4 : Bk W4 Y 28 [.int .i64 nx, .int .i64 ny] := by rw [hW4, hY]; exact (by (repeat' (first | (with_reducible exact Bk.new _ _ _) | (with_reducible refine Bk.new1 ?_; first | rfl | (simp; done) | omega) | (with_reducible assumption) | (with_reducible refine Bk.alloc ?_ _) | (with_reducible refine Bk.drew ?_) | (with_reducible refine Bk.drewN ?_ _) | (with_reducible refine Bk.other ?_ ?_ _) | (with_reducible apply Bk.drewBy; with_reducible assumption) | (with_reducible apply Bk.viaB; with_reducible assumption) | omega | (simp; done))))
          have hBr4 : Below w3.heap.size w3 W4 := by rw [hW4]; (repeat' (first | (with_reducible exact Below.refl _ _) | (with_reducible refine Below.alloc ?_ ?_ _) | (with_reducible refine Below.drew ?_) | (with_reducible refine below_drewN ?_ _) | (with_reducible refine Below.setCell ?_ ?_ _) | (with_reducible refine below_via ‹_› ?_ ?_) | (with_reducible refine below_grow ?_ ?_ _ _) | omega | (simp; done) | (simp; omega)))
          have hB4 : Below w.heap.size w W4 := hB33.trans (hBr4.mono hB33.size)
          have hXY : X < Y := by have := hbX3.lt; omega
          have e1 := below_cell hBr4 hb3lt d1
          have hb4lt : bb < W4.heap.size := by have := hBr4.size; omega
          clear hW4 hY d5 hbX3 hbg3 cr
          have b0 := hbg4.cell 0 rfl
          have b1 := hbg4.cell 1 rfl
          have b2 := hbg4.cell 2 rfl
          have b3 := hbg4.cell 3 rfl
          have b4 := hbg4.cell 4 rfl
          have b5 := hbg4.cell 5 rfl
          have b6 := hbg4.cell 6 rfl
          have b7 := hbg4.cell 7 rfl
          have fxg := hbg4.fr
          have hltg := hbg4.lt
          cases oa
          · have HR := hid (HRd.out.trans (wrd7_no (by rw [HWK.out]; simp)))
            go_wp2_with fail
            refine bodyPost_ret (v := .tuple #[.agg #[.int .i64 0, .int .i64 0, .int .i64 0, .int .i64 0, .int .i64 0, .int .i64 0, .int .i64 0, .string ⟨#[]⟩], .bool false]) (by simp [results, Tryd.results44, go_sem, *]) rfl (wrnPost_none (by (repeat' (first | (with_reducible exact Below.refl _ _) | (with_reducible refine Below.alloc ?_ ?_ _) | (with_reducible refine Below.drew ?_) | (with_reducible refine below_drewN ?_ _) | (with_reducible refine Below.setCell ?_ ?_ _) | (with_reducible refine below_via ‹_› ?_ ?_) | (with_reducible refine below_grow ?_ ?_ _ _) | omega | (simp; done) | (simp; omega)))) HR.out)
          cases of'
          · have HR := hid (HRd.out.trans (wrd7_no (by rw [HWK.out]; simp)))
            go_wp2_with fail
            refine bodyPost_ret (v := .tuple #[.agg #[.int .i64 0, .int .i64 0, .int .i64 0, .int .i64 0, .int .i64 0, .int .i64 0, .int .i64 0, .string ⟨#[]⟩], .bool false]) (by simp [results, Tryd.results44, go_sem, *]) rfl (wrnPost_none (by (repeat' (first | (with_reducible exact Below.refl _ _) | (with_reducible refine Below.alloc ?_ ?_ _) | (with_reducible refine Below.drew ?_) | (with_reducible refine below_drewN ?_ _) | (with_reducible refine Below.setCell ?_ ?_ _) | (with_reducible refine below_via ‹_› ?_ ?_) | (with_reducible refine below_grow ?_ ?_ _ _) | omega | (simp; done) | (simp; omega)))) HR.out)
          cases ou
          · have HR := hid (HRd.out.trans (wrd7_no (by rw [HWK.out]; simp)))
            go_wp2_with fail
            refine bodyPost_ret (v := .tuple #[.agg #[.int .i64 0, .int .i64 0, .int .i64 0, .int .i64 0, .int .i64 0, .int .i64 0, .int .i64 0, .string ⟨#[]⟩], .bool false]) (by simp [results, Tryd.results44, go_sem, *]) rfl (wrnPost_none (by (repeat' (first | (with_reducible exact Below.refl _ _) | (with_reducible refine Below.alloc ?_ ?_ _) | (with_reducible refine Below.drew ?_) | (with_reducible refine below_drewN ?_ _) | (with_reducible refine Below.setCell ?_ ?_ _) | (with_reducible refine below_via ‹_› ?_ ?_) | (with_reducible refine below_grow ?_ ?_ _ _) | omega | (simp; done) | (simp; omega)))) HR.out)
          cases ot
          · have HR := hid (HRd.out.trans (wrd7_no (by rw [HWK.out]; simp)))
            go_wp2_with fail
            refine bodyPost_ret (v := .tuple #[.agg #[.int .i64 0, .int .i64 0, .int .i64 0, .int .i64 0, .int .i64 0, .int .i64 0, .int .i64 0, .string ⟨#[]⟩], .bool false]) (by simp [results, Tryd.results44, go_sem, *]) rfl (wrnPost_none (by (repeat' (first | (with_reducible exact Below.refl _ _) | (with_reducible refine Below.alloc ?_ ?_ _) | (with_reducible refine Below.drew ?_) | (with_reducible refine below_drewN ?_ _) | (with_reducible refine Below.setCell ?_ ?_ _) | (with_reducible refine below_via ‹_› ?_ ?_) | (with_reducible refine below_grow ?_ ?_ _ _) | omega | (simp; done) | (simp; omega)))) HR.out)
          cases or'
          · have HR := hid (HRd.out.trans (wrd7_no (by rw [HWK.out]; simp)))
            go_wp2_with fail
            refine bodyPost_ret (v := .tuple #[.agg #[.int .i64 0, .int .i64 0, .int .i64 0, .int .i64 0, .int .i64 0, .int .i64 0, .int .i64 0, .string ⟨#[]⟩], .bool false]) (by simp [results, Tryd.results44, go_sem, *]) rfl (wrnPost_none (by (repeat' (first | (with_reducible exact Below.refl _ _) | (with_reducible refine Below.alloc ?_ ?_ _) | (with_reducible refine Below.drew ?_) | (with_reducible refine below_drewN ?_ _) | (with_reducible refine Below.setCell ?_ ?_ _) | (with_reducible refine below_via ‹_› ?_ ?_) | (with_reducible refine below_grow ?_ ?_ _ _) | omega | (simp; done) | (simp; omega)))) HR.out)
          clear b0 b1 b2 b3 b4 b5 b6 b7 fxg
          have HX4 := hid hbX4
          have HG4 := hid hbg4
          have HY4 := hid hbY4
          have hXg : X ≠ g0 := by omega
          have hltX := hbX4.lt
          have hltY := hbY4.lt
          clear hbX4 hbg4 hbY4
          go_wp2_with fail
          obtain ⟨wo, rfl⟩ : ∃ wo : World, wo = wr := ⟨_, rfl⟩
          go_loopw [18] (fun i wr => ∃ j : Nat, j ≤ 3 ∧ i = .int .i64 j ∧ Bk wr X 30 [.int .i64 0, .int .i64 (prioK p j), .int .i64 0, .int .i64 0, .int .i64 0, .int .i64 0, .int .i64 0, .string ws] ∧ Only X W4 wr) (fun i _ => 3 - (intOf i).toNat)
          case atStart => exact ⟨0, by omega, rfl, HX4.out, only_of (Kept.refl _ _)⟩
          case round =>
            obtain ⟨j, hj3, rfl, hbj, hO⟩ := hrel
            by_cases hj : j < 3
            · have hjI : (j : Int) < 3 := by omega
              have hjI2 : (j : Int) + 1 ≤ 3 := by omega
              have c1 := hO.out.cell hb4lt (show ¬ bb = X by omega) e1
              have hbq : bb < wr.heap.size := Nat.lt_of_lt_of_le hb4lt hO.out.size
              have k1 : ∀ w', Gr wr w' → w'.cell? ⟨bb, off + 1, none⟩ = some (.string p) := fun w' h => below_cell h.out hbq c1
              have hXq := hbj.lt
              have HBJ := hid hbj
              have HO := hid hO
              have hw1 : IntKind.i64.wrap ((j : Int) + 1) = (j : Int) + 1 := IntWalk.i64_in _ (by omega)
              clear hbj hO e1 c1
              cases hq : ((nameP ((j : Int) + 1)).toList == p.toList)
              · have HP := hid (show prioK p (j + 1) = prioK p j by rw [prioK, hq]; rfl)
                go_wp2_with fail
                refine hg_region 8 (by rfl) (by kernel_rfl) ?_
                refine hg_take (i := 1) (v := ?_) (by first | (simp only [List.getElem?_toArray, List.getElem?_cons_succ, List.getElem?_cons_zero]; done) | (simp only [List.getElem?_toArray, List.getElem?_cons_succ, List.getElem?_cons_zero]; rfl)) (by kernel_rfl) (by kernel_rfl) (by kernel_rfl) (by exact fun _ _ _ h => h) (yg_val (by rfl) ?_) ?_
                rotate_left
                · intro w' hw'; first | (go_simp; done) | (go_simp; with_reducible rfl)
                simp only [Act.put, List.setIfInBounds_toArray, List.set_cons_zero, List.set_cons_succ]
                refine hg_take (i := 4) (v := ?_) (by first | (simp only [List.getElem?_toArray, List.getElem?_cons_succ, List.getElem?_cons_zero]; done) | (simp only [List.getElem?_toArray, List.getElem?_cons_succ, List.getElem?_cons_zero]; rfl)) (by kernel_rfl) (by kernel_rfl) (by kernel_rfl) (by exact fun _ _ _ h => h) (yg_val (by rfl) ?_) ?_
                rotate_left
                · intro w' hw'; first | (go_simp; done) | (go_simp; with_reducible rfl)
                simp only [Act.put, List.setIfInBounds_toArray, List.set_cons_zero, List.set_cons_succ]
                refine hg_take (i := 5) (v := ?_) (by first | (simp only [List.getElem?_toArray, List.getElem?_cons_succ, List.getElem?_cons_zero]; done) | (simp only [List.getElem?_toArray, List.getElem?_cons_succ, List.getElem?_cons_zero]; rfl)) (by kernel_rfl) (by kernel_rfl) (by kernel_rfl) (by exact fun _ _ _ h => h) (yg_val (by rfl) ?_) ?_
                rotate_left
                · intro w' hw'; first | (go_simp; done) | (go_simp; with_reducible rfl)
                simp only [Act.put, List.setIfInBounds_toArray, List.set_cons_zero, List.set_cons_succ]
                refine hg_take (i := 6) (v := ?_) (by first | (simp only [List.getElem?_toArray, List.getElem?_cons_succ, List.getElem?_cons_zero]; done) | (simp only [List.getElem?_toArray, List.getElem?_cons_succ, List.getElem?_cons_zero]; rfl)) (by kernel_rfl) (by kernel_rfl) (by kernel_rfl) (by exact fun _ _ _ h => h) (yg_val (by rfl) ?_) ?_
                rotate_left
                · intro w' hw'; first | (go_simp; done) | (go_simp; with_reducible rfl)
                simp only [Act.put, List.setIfInBounds_toArray, List.set_cons_zero, List.set_cons_succ]
                refine hg_one (i := 0) (by first | (simp only [List.getElem?_toArray, List.getElem?_cons_succ, List.getElem?_cons_zero]; done) | (simp only [List.getElem?_toArray, List.getElem?_cons_succ, List.getElem?_cons_zero]; rfl)) (by kernel_rfl) (by rfl) fun w1' hw1' K hK => ?_
                go_simp
                refine (c_l22Names _).mono ?_
                rintro e w2' ⟨nb, rfl, hb2', hN⟩
                refine hK _ _ (gr_of hb2') ?_
                have m0 : ∀ w', Gr w2' w' → w'.cell? ⟨nb, j, none⟩ = some (.string (nameP ((j : Int) + 1))) := fun w' h => (hN.at h.out).get rfl hj
                have hG2 : Gr wr w2' := hw1'.trans (gr_of hb2')
                clear hK hN hb2' hw1' k1
                refine hg_take (i := 2) (v := ?_) (by first | (simp only [List.getElem?_toArray, List.getElem?_cons_succ, List.getElem?_cons_zero]; done) | (simp only [List.getElem?_toArray, List.getElem?_cons_succ, List.getElem?_cons_zero]; rfl)) (by kernel_rfl) (by kernel_rfl) (by kernel_rfl) (by exact fun _ _ _ h => h) (yg_val (by rfl) ?_) ?_
                rotate_left
                · intro w' hw'; first | (go_simp; done) | (go_simp; with_reducible rfl)
                simp only [Act.put, List.setIfInBounds_toArray, List.set_cons_zero, List.set_cons_succ]
                refine hg_take (i := 3) (v := ?_) (by first | (simp only [List.getElem?_toArray, List.getElem?_cons_succ, List.getElem?_cons_zero]; done) | (simp only [List.getElem?_toArray, List.getElem?_cons_succ, List.getElem?_cons_zero]; rfl)) (by kernel_rfl) (by kernel_rfl) (by kernel_rfl) (by exact fun _ _ _ h => h) (yg_val (by rfl) ?_) ?_
                rotate_left
                · intro w' hw'; first | (go_simp; done) | (go_simp; with_reducible rfl)
                simp only [Act.put, List.setIfInBounds_toArray, List.set_cons_zero, List.set_cons_succ]
                refine hg_take (i := 7) (v := ?_) (by first | (simp only [List.getElem?_toArray, List.getElem?_cons_succ, List.getElem?_cons_zero]; done) | (simp only [List.getElem?_toArray, List.getElem?_cons_succ, List.getElem?_cons_zero]; rfl)) (by kernel_rfl) (by kernel_rfl) (by kernel_rfl) (by exact fun _ _ _ h => h) (yg_val (by rfl) ?_) ?_
                rotate_left
                · intro w' hw'; first | (go_simp; done) | (go_simp; with_reducible rfl)
                simp only [Act.put, List.setIfInBounds_toArray, List.set_cons_zero, List.set_cons_succ]
                refine hg_done (by kernel_rfl) fun w5 hw5 => ?_
                have hS5 : Since wr w5 := since_of (hG2.trans hw5).out
                clear m0 hG2 hw5
                go_wp2_with fail
                go_roundw
                case rel => exact ⟨j + 1, by omega, by go_num, by rw [HP.out]; exact HBJ.out.below hS5.out, only_of (HO.out.out.trans (Kept.of hS5.out))⟩
                case measure => simp [intOf]; omega
              · have HP := hid (show prioK p (j + 1) = (j : Int) + 1 by rw [prioK, hq]; rfl)
                go_wp2_with fail
                refine hg_region 8 (by rfl) (by kernel_rfl) ?_
                refine hg_take (i := 1) (v := ?_) (by first | (simp only [List.getElem?_toArray, List.getElem?_cons_succ, List.getElem?_cons_zero]; done) | (simp only [List.getElem?_toArray, List.getElem?_cons_succ, List.getElem?_cons_zero]; rfl)) (by kernel_rfl) (by kernel_rfl) (by kernel_rfl) (by exact fun _ _ _ h => h) (yg_val (by rfl) ?_) ?_
                rotate_left
                · intro w' hw'; first | (go_simp; done) | (go_simp; with_reducible rfl)
                simp only [Act.put, List.setIfInBounds_toArray, List.set_cons_zero, List.set_cons_succ]
                refine hg_take (i := 4) (v := ?_) (by first | (simp only [List.getElem?_toArray, List.getElem?_cons_succ, List.getElem?_cons_zero]; done) | (simp only [List.getElem?_toArray, List.getElem?_cons_succ, List.getElem?_cons_zero]; rfl)) (by kernel_rfl) (by kernel_rfl) (by kernel_rfl) (by exact fun _ _ _ h => h) (yg_val (by rfl) ?_) ?_
                rotate_left
                · intro w' hw'; first | (go_simp; done) | (go_simp; with_reducible rfl)
                simp only [Act.put, List.setIfInBounds_toArray, List.set_cons_zero, List.set_cons_succ]
                refine hg_take (i := 5) (v := ?_) (by first | (simp only [List.getElem?_toArray, List.getElem?_cons_succ, List.getElem?_cons_zero]; done) | (simp only [List.getElem?_toArray, List.getElem?_cons_succ, List.getElem?_cons_zero]; rfl)) (by kernel_rfl) (by kernel_rfl) (by kernel_rfl) (by exact fun _ _ _ h => h) (yg_val (by rfl) ?_) ?_
                rotate_left
                · intro w' hw'; first | (go_simp; done) | (go_simp; with_reducible rfl)
                simp only [Act.put, List.setIfInBounds_toArray, List.set_cons_zero, List.set_cons_succ]
                refine hg_take (i := 6) (v := ?_) (by first | (simp only [List.getElem?_toArray, List.getElem?_cons_succ, List.getElem?_cons_zero]; done) | (simp only [List.getElem?_toArray, List.getElem?_cons_succ, List.getElem?_cons_zero]; rfl)) (by kernel_rfl) (by kernel_rfl) (by kernel_rfl) (by exact fun _ _ _ h => h) (yg_val (by rfl) ?_) ?_
                rotate_left
                · intro w' hw'; first | (go_simp; done) | (go_simp; with_reducible rfl)
                simp only [Act.put, List.setIfInBounds_toArray, List.set_cons_zero, List.set_cons_succ]
                refine hg_one (i := 0) (by first | (simp only [List.getElem?_toArray, List.getElem?_cons_succ, List.getElem?_cons_zero]; done) | (simp only [List.getElem?_toArray, List.getElem?_cons_succ, List.getElem?_cons_zero]; rfl)) (by kernel_rfl) (by rfl) fun w1' hw1' K hK => ?_
                go_simp
                refine (c_l22Names _).mono ?_
                rintro e w2' ⟨nb, rfl, hb2', hN⟩
                refine hK _ _ (gr_of hb2') ?_
                have m0 : ∀ w', Gr w2' w' → w'.cell? ⟨nb, j, none⟩ = some (.string (nameP ((j : Int) + 1))) := fun w' h => (hN.at h.out).get rfl hj
                have hG2 : Gr wr w2' := hw1'.trans (gr_of hb2')
                clear hK hN hb2' hw1' k1
                refine hg_take (i := 2) (v := ?_) (by first | (simp only [List.getElem?_toArray, List.getElem?_cons_succ, List.getElem?_cons_zero]; done) | (simp only [List.getElem?_toArray, List.getElem?_cons_succ, List.getElem?_cons_zero]; rfl)) (by kernel_rfl) (by kernel_rfl) (by kernel_rfl) (by exact fun _ _ _ h => h) (yg_val (by rfl) ?_) ?_
                rotate_left
                · intro w' hw'; first | (go_simp; done) | (go_simp; with_reducible rfl)
                simp only [Act.put, List.setIfInBounds_toArray, List.set_cons_zero, List.set_cons_succ]
                refine hg_take (i := 3) (v := ?_) (by first | (simp only [List.getElem?_toArray, List.getElem?_cons_succ, List.getElem?_cons_zero]; done) | (simp only [List.getElem?_toArray, List.getElem?_cons_succ, List.getElem?_cons_zero]; rfl)) (by kernel_rfl) (by kernel_rfl) (by kernel_rfl) (by exact fun _ _ _ h => h) (yg_val (by rfl) ?_) ?_
                rotate_left
                · intro w' hw'; first | (go_simp; done) | (go_simp; with_reducible rfl)
                simp only [Act.put, List.setIfInBounds_toArray, List.set_cons_zero, List.set_cons_succ]
                refine hg_take (i := 7) (v := ?_) (by first | (simp only [List.getElem?_toArray, List.getElem?_cons_succ, List.getElem?_cons_zero]; done) | (simp only [List.getElem?_toArray, List.getElem?_cons_succ, List.getElem?_cons_zero]; rfl)) (by kernel_rfl) (by kernel_rfl) (by kernel_rfl) (by exact fun _ _ _ h => h) (yg_val (by rfl) ?_) ?_
                rotate_left
                · intro w' hw'; first | (go_simp; done) | (go_simp; with_reducible rfl)
                simp only [Act.put, List.setIfInBounds_toArray, List.set_cons_zero, List.set_cons_succ]
                refine hg_done (by kernel_rfl) fun w5 hw5 => ?_
                have hS5 : Since wr w5 := since_of (hG2.trans hw5).out
                clear m0 hG2 hw5
                have hbX5 := HBJ.out.below hS5.out
                have x1 := hbX5.cell 1 rfl
                have fx5 := hbX5.fr
                have hX5 := hbX5.lt
                go_wp2_with fail
                go_roundw
                case rel => exact ⟨j + 1, by omega, by go_num, by rw [HP.out]; exact hbX5.set 1 _, only_of ((HO.out.out.trans (Kept.of hS5.out)).set _ _ rfl)⟩
                case measure => simp [intOf]; omega
            · have ej : j = 3 := by omega
              subst ej
              have hbgq := HG4.out.kept hO.out (show ¬ g0 = X by omega)
              have hbYq := HY4.out.kept hO.out (show ¬ Y = X by omega)
              have x0 := hbj.cell 0 rfl
              have x1 := hbj.cell 1 rfl
              have x2 := hbj.cell 2 rfl
              have x3 := hbj.cell 3 rfl
              have x4 := hbj.cell 4 rfl
              have x5 := hbj.cell 5 rfl
              have x6 := hbj.cell 6 rfl
              have x7 := hbj.cell 7 rfl
              have fx := hbj.fr
              have y0 := hbYq.cell 0 rfl
              have y1 := hbYq.cell 1 rfl
              have hXq := hbj.lt
              have hYq := hbYq.lt
              have hYX : Y ≠ X := by omega
              obtain ⟨W9, hW9⟩ : ∃ z, z = ((((((wr.setCell ⟨X, 0, none⟩ (.int .i64 na)).setCell ⟨X, 2, none⟩ (.int .i64 nf)).setCell ⟨X, 3, none⟩ (.int .i64 nu)).setCell ⟨X, 4, none⟩ (.int .i64 nx)).setCell ⟨X, 5, none⟩ (.int .i64 ny)).setCell ⟨X, 6, none⟩ (.int .i64 nr)) := ⟨_, rfl⟩
              have hb9 : Bk W9 X 30 [.int .i64 na, .int .i64 (prioK p 3), .int .i64 nf, .int .i64 nu, .int .i64 nx, .int .i64 ny, .int .i64 nr, .string ws] := by rw [hW9]; exact (((((hbj.set 0 _).set 2 _).set 3 _).set 4 _).set 5 _).set 6 _
              have hg9 : Bk W9 g0 30 [.int .i64 0, .int .i64 0, .int .i64 0, .int .i64 0, .int .i64 0, .int .i64 0, .int .i64 0, .string ⟨#[]⟩] := by rw [hW9]; exact (((((hbgq.other hXg _).other hXg _).other hXg _).other hXg _).other hXg _).other hXg _
              have hK9 : Kept (fun b => b = X) W4 W9 := by rw [hW9]; exact (((((hO.out.set _ _ rfl).set _ _ rfl).set _ _ rfl).set _ _ rfl).set _ _ rfl).set _ _ rfl
              have hB9 : Below w.heap.size w W9 := hB4.trans (hK9.below hB4.size (fun k hk => by omega))
              have HW9 := hid hW9
              have HRW := hid (show wrnRd s = if warnB na (prioK p 3) nf nu nx ny nr ws then some ⟨na, prioK p 3, nf, nu, nx, ny, nr, ws⟩ else none by
                rw [HRd.out]
                simp only [wrd7, HWK.out, HWD.out, warnD, Bool.true_and])
              clear hbj hO hW9 hbgq hbYq e1 hK9
              go_wp2_with fail
              rw [← HW9.out]
              refine (c_l22One X 0 na (prioK p 3) nf nu nx ny nr ws W9 hb9.lt hwss (hb9.cell 0 rfl) (hb9.cell 1 rfl) (hb9.cell 2 rfl) (hb9.cell 3 rfl) (hb9.cell 4 rfl) (hb9.cell 5 rfl) (hb9.cell 6 rfl) (hb9.cell 7 rfl)).mono ?_
              rintro e w8 ⟨rfl, hb8⟩
              have hg8 := hg9.below hb8
              have hx8 := hb9.below hb8
              have hB8 : Below w.heap.size w w8 := hB9.trans (hb8.mono hB9.size)
              clear x0 x1 x2 x3 x4 x5 x6 x7 fx y0 y1 hb9 hg9 hB9 hb8
              have b0 := hg8.cell 0 rfl
              have b1 := hg8.cell 1 rfl
              have b2 := hg8.cell 2 rfl
              have b3 := hg8.cell 3 rfl
              have b4 := hg8.cell 4 rfl
              have b5 := hg8.cell 5 rfl
              have b6 := hg8.cell 6 rfl
              have b7 := hg8.cell 7 rfl
              have fxg := hg8.fr
              have hlt8 := hg8.lt
              cases hw : warnB na (prioK p 3) nf nu nx ny nr ws
              · have HR := hid (show wrnRd s = none by rw [HRW.out, hw]; rfl)
                go_wp2_with fail
                refine bodyPost_ret (v := .tuple #[.agg #[.int .i64 0, .int .i64 0, .int .i64 0, .int .i64 0, .int .i64 0, .int .i64 0, .int .i64 0, .string ⟨#[]⟩], .bool false]) (by simp [results, Tryd.results44, go_sem, *]) rfl (wrnPost_none (by (repeat' (first | (with_reducible exact Below.refl _ _) | (with_reducible refine Below.alloc ?_ ?_ _) | (with_reducible refine Below.drew ?_) | (with_reducible refine below_drewN ?_ _) | (with_reducible refine Below.setCell ?_ ?_ _) | (with_reducible refine below_via ‹_› ?_ ?_) | (with_reducible refine below_grow ?_ ?_ _ _) | omega | (simp; done) | (simp; omega)))) HR.out)
              · have HR := hid (show wrnRd s = some ⟨na, prioK p 3, nf, nu, nx, ny, nr, ws⟩ by rw [HRW.out, hw]; rfl)
                have x0 := hx8.cell 0 rfl
                have x1 := hx8.cell 1 rfl
                have x2 := hx8.cell 2 rfl
                have x3 := hx8.cell 3 rfl
                have x4 := hx8.cell 4 rfl
                have x5 := hx8.cell 5 rfl
                have x6 := hx8.cell 6 rfl
                have x7 := hx8.cell 7 rfl
                go_wp2_with fail
                refine bodyPost_ret (v := .tuple #[.agg #[.int .i64 na, .int .i64 (prioK p 3), .int .i64 nf, .int .i64 nu, .int .i64 nx, .int .i64 ny, .int .i64 nr, .string ws], .bool true]) (by simp [results, Tryd.results44, go_sem, *]) rfl (wrnPost_some (by (repeat' (first | (with_reducible exact Below.refl _ _) | (with_reducible refine Below.alloc ?_ ?_ _) | (with_reducible refine Below.drew ?_) | (with_reducible refine below_drewN ?_ _) | (with_reducible refine Below.setCell ?_ ?_ _) | (with_reducible refine below_via ‹_› ?_ ?_) | (with_reducible refine below_grow ?_ ?_ _ _) | omega | (simp; done) | (simp; omega)))) HR.out)
end Go.Proofs.YtocpgnpdnoidnaaDoor
