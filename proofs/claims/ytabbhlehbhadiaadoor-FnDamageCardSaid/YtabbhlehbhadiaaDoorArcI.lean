/- The archive's bytes read, the program's side: frame by frame, each given to a function. -/
import Derived.Test.YtabbhlehbhadiaaDoorFrmI
namespace Go.Proofs.YtabbhlehbhadiaaDoor
open Go.RowKit Go.Sort
set_option linter.unusedVariables false
set_option maxRecDepth 100000

/-- what is asked of the function that takes the items: R k w a: k items taken, the answer so far a -/
structure Takes {A : Type} (w0 : World) (fc : Nat) (caps : Array Value) (stp : A → ItemD → Bool → Int × A) (R : Nat → World → A → Prop) : Prop where
  stay : ∀ k w w' a, R k w a → Below w.heap.size w w' → R k w' a
  old : ∀ k w a, R k w a → Below w0.heap.size w0 w
  call : ∀ k w w1 a (d : ItemD) bad, R k w a → Below w.heap.size w w1 → k ≤ 40 → okItem d → Calls Tryd.prog fc (#[.agg #[.string d.fKey, .string d.fText], .bool bad] ++ caps) w1 fun e w' =>
    e = .returned (.int .i64 (stp a d bad).1) ∧ R (k + 1) w' (stp a d bad).2 ∧ ∀ X, w.heap.size ≤ X → X < w1.heap.size → w1.heap.size ≤ w'.heap.size ∧ w'.heap[X]? = w1.heap[X]?
  ent : ∀ (args : Array Value) (w : World), (callFunc fc args).run Tryd.prog w = .ok (.enter fc args) w
def ArcP {A : Type} (R : Nat → World → A → Prop) (r : Int × A) (e : Ending) (w' : World) : Prop := e = .returned (.int .i64 r.1) ∧ ∃ k, R k w' r.2
theorem arcP_of {A : Type} {R : Nat → World → A → Prop} {r : Int × A} {c : Int} {a : A} {k : Nat} {w' : World} (h : r = (c, a)) (hR : R k w' a) : ArcP R r (.returned (.int .i64 c)) w' := by subst h; exact ⟨rfl, k, hR⟩
theorem lst_nil {s : ByteArray} : (s.toList == ([] : List UInt8)) = true ↔ s.data.toList = [] := by rw [ByteArray.toList_eq, beq_iff_eq]
def BkX (X : Nat) (T : TypeId) (cs : List Value) (w : World) : Prop := Bk w X T cs
theorem bkX_of {X : Nat} {T : TypeId} {cs : List Value} {w : World} (h : Bk w X T cs) : BkX X T cs w := h
theorem BkX.out {X : Nat} {T : TypeId} {cs : List Value} {w : World} (h : BkX X T cs w) : Bk w X T cs := h
theorem frame_drop {s : ByteArray} {l : List UInt8} {n : Nat} (h : l = s.data.toList.drop n) (hs : (s.size : Int) ≤ 1048576) : ((bs l).size : Int) ≤ 1048576 := by
  rw [bs_size, h, List.length_drop, data_len]; omega
set_option maxHeartbeats 4000000 in
theorem c_readFrames {A : Type} (w0 : World) (fc : Nat) (caps : Array Value) (stp : A → ItemD → Bool → Int × A) (R : Nat → World → A → Prop) (hT : Takes w0 fc caps stp R) (s : ByteArray) (a0 : A) (w : World)
    (hs : (s.size : Int) ≤ 1048576) (hR : R 0 w a0) (hrd : Rd w0) :
    Calls Tryd.prog 17 #[.string s, .func (.func fc) #[] caps] w (ArcP R (arcL stp a0 s.data.toList)) := by
  have hrw : Rd w := hrd.at (hT.old _ _ _ hR)
  have cl := fun w' h => c_CutNl s w' hs h
  have HT := hid hT
  have hR0 := hid hR
  clear hT hR
  cases hn : nlO s.data.toList with
  | none =>
    have HN := hid hn
    have HR := hid (show arcL stp a0 s.data.toList = (11, a0) from arcL_none hn)
    clear hn
    go_enter Tryd.func17, Tryd.ntmps17
    go_wp2_with fail
    refine (cl _ (hrw.at (by (repeat' (first | (with_reducible exact Below.refl _ _) | (with_reducible refine Below.alloc ?_ ?_ _) | (with_reducible refine Below.drew ?_) | (with_reducible refine below_drewN ?_ _) | (with_reducible refine Below.setCell ?_ ?_ _) | (with_reducible refine below_via ‹_› ?_ ?_) | (with_reducible refine below_grow ?_ ?_ _ _) | omega | (simp; done) | (simp; omega)))))).mono ?_
    rintro e w1 ⟨⟨v, rfl, hv, -⟩, hb1⟩
    have hv := hv HN.out
    subst hv
    clear cl
    go_wp2_with fail
    go_ret
    exact arcP_of HR.out (HT.out.stay _ _ _ _ hR0.out (by (repeat' (first | (with_reducible exact Below.refl _ _) | (with_reducible refine Below.alloc ?_ ?_ _) | (with_reducible refine Below.drew ?_) | (with_reducible refine below_drewN ?_ _) | (with_reducible refine Below.setCell ?_ ?_ _) | (with_reducible refine below_via ‹_› ?_ ?_) | (with_reducible refine below_grow ?_ ?_ _ _) | omega | (simp; done) | (simp; omega)))))
  | some j =>
    have HN := hid hn
    obtain ⟨hj, -, -⟩ := nlO_some hn
    have hj' : j < s.size := by rw [data_len] at hj; exact hj
    have hl0 : (s.extract 0 j).data.toList = s.data.toList.take j := by rw [ext_bs, bs_list]; simp
    obtain ⟨ln, hln⟩ : ∃ ln, ln = s.extract 0 j := ⟨_, rfl⟩
    rw [← hln] at hl0
    have hsz : (ln.size : Int) ≤ 1048576 := by rw [hln, ByteArray.size_extract]; omega
    have HA := hid hln
    have hl1 : (s.extract (j + 1) s.size).data.toList = s.data.toList.drop (j + 1) := by rw [ext_bs, bs_list, List.take_of_length_le (by rw [List.length_drop, data_len]; omega)]
    obtain ⟨rs, hrs⟩ : ∃ rs, rs = s.extract (j + 1) s.size := ⟨_, rfl⟩
    rw [← hrs] at hl1
    have hrb : (rs.size : Int) ≤ 1048576 := by rw [hrs, ByteArray.size_extract]; omega
    have HRS := hid hrs
    have cc := fun w' h => c_readCount ln w' hsz h
    rw [hl0] at cc
    have HL1 := hid hl1
    clear hn hln hl0 hj hrs hl1
    cases hh : hdL (s.data.toList.take j) with
    | none =>
      have HR := hid (show arcL stp a0 s.data.toList = (9, a0) from arcL_bad HN.out hh)
      rw [hh] at cc
      clear hh
      go_enter Tryd.func17, Tryd.ntmps17
      go_wp2_with fail
      refine (cl _ (hrw.at (by (repeat' (first | (with_reducible exact Below.refl _ _) | (with_reducible refine Below.alloc ?_ ?_ _) | (with_reducible refine Below.drew ?_) | (with_reducible refine below_drewN ?_ _) | (with_reducible refine Below.setCell ?_ ?_ _) | (with_reducible refine below_via ‹_› ?_ ?_) | (with_reducible refine below_grow ?_ ?_ _ _) | omega | (simp; done) | (simp; omega)))))).mono ?_
      rintro e w1 ⟨⟨v, rfl, -, hv⟩, hb1⟩
      have hv2 := hv j HN.out
      rw [← HA.out, ← HRS.out] at hv2
      subst hv2
      have hz1 := hb1.size
      clear cl hv
      go_wp2_with fail
      refine (cc _ (hrw.at (by (repeat' (first | (with_reducible exact Below.refl _ _) | (with_reducible refine Below.alloc ?_ ?_ _) | (with_reducible refine Below.drew ?_) | (with_reducible refine below_drewN ?_ _) | (with_reducible refine Below.setCell ?_ ?_ _) | (with_reducible refine below_via ‹_› ?_ ?_) | (with_reducible refine below_grow ?_ ?_ _ _) | omega | (simp; done) | (simp; omega)))))).mono ?_
      intro e w2 h2
      obtain ⟨hb2, n, rfl⟩ := cnt_none h2 rfl
      clear h2 cc
      go_wp2_with fail
      go_ret
      exact arcP_of HR.out (HT.out.stay _ _ _ _ hR0.out (by (repeat' (first | (with_reducible exact Below.refl _ _) | (with_reducible refine Below.alloc ?_ ?_ _) | (with_reducible refine Below.drew ?_) | (with_reducible refine below_drewN ?_ _) | (with_reducible refine Below.setCell ?_ ?_ _) | (with_reducible refine below_via ‹_› ?_ ?_) | (with_reducible refine below_grow ?_ ?_ _ _) | omega | (simp; done) | (simp; omega)))))
    | some n =>
      have HG := hid (show arcL stp a0 s.data.toList = arcF stp n a0 rs.data.toList by rw [arcL_go HN.out hh, HL1.out])
      have hn40 : n ≤ 40 := by
        rw [← hdI_eq] at hh
        unfold hdI at hh
        split at hh
        · exact (hdN_some hh).2.2
        · cases hh
      rw [hh] at cc
      clear hh
      go_enter Tryd.func17, Tryd.ntmps17
      go_wp2_with fail
      refine (cl _ (hrw.at (by (repeat' (first | (with_reducible exact Below.refl _ _) | (with_reducible refine Below.alloc ?_ ?_ _) | (with_reducible refine Below.drew ?_) | (with_reducible refine below_drewN ?_ _) | (with_reducible refine Below.setCell ?_ ?_ _) | (with_reducible refine below_via ‹_› ?_ ?_) | (with_reducible refine below_grow ?_ ?_ _ _) | omega | (simp; done) | (simp; omega)))))).mono ?_
      rintro e w1 ⟨⟨v, rfl, -, hv⟩, hb1⟩
      have hv2 := hv j HN.out
      rw [← HA.out, ← HRS.out] at hv2
      subst hv2
      have hz1 := hb1.size
      clear cl hv
      go_wp2_with fail
      refine (cc _ (hrw.at (by (repeat' (first | (with_reducible exact Below.refl _ _) | (with_reducible refine Below.alloc ?_ ?_ _) | (with_reducible refine Below.drew ?_) | (with_reducible refine below_drewN ?_ _) | (with_reducible refine Below.setCell ?_ ?_ _) | (with_reducible refine below_via ‹_› ?_ ?_) | (with_reducible refine below_grow ?_ ?_ _ _) | omega | (simp; done) | (simp; omega)))))).mono ?_
      intro e w2 h2
      obtain ⟨hb2, rfl⟩ := cnt_some h2 rfl
      have HR2 := hid (HT.out.stay _ _ _ _ hR0.out (show Below w.heap.size w w2 by (repeat' (first | (with_reducible exact Below.refl _ _) | (with_reducible refine Below.alloc ?_ ?_ _) | (with_reducible refine Below.drew ?_) | (with_reducible refine below_drewN ?_ _) | (with_reducible refine Below.setCell ?_ ?_ _) | (with_reducible refine below_via ‹_› ?_ ?_) | (with_reducible refine below_grow ?_ ?_ _ _) | omega | (simp; done) | (simp; omega)))))
      clear h2 cc hb1 hb2 hz1
      go_wp2_with fail
      go_loopw [6, 31] (fun r i wr => ∃ (k : Nat) (q : ByteArray) (a : A), k ≤ n ∧ i = .int .i64 k ∧ r = .string q ∧ (q.size : Int) ≤ 1048576 ∧ Hid (arcF stp (n - k) a q.data.toList = arcL stp a0 s.data.toList) ∧ Hid (R k wr a)) (fun _ i _ => n - (intOf i).toNat)
      case atStart => exact ⟨0, rs, a0, Nat.zero_le _, rfl, rfl, hrb, hid (by rw [HG.out]; rfl), HR2⟩
      case round =>
        clear HG HR2
        obtain ⟨k, q, a, hk, rfl, rfl, hq, hO, hRk⟩ := hrel
        have hrr : Rd wr := hrd.at (HT.out.old _ _ _ hRk.out)
        by_cases hlt : k < n
        · have hlI : (k : Int) < n := by omega
          have cf := fun w' h => c_readFrame q w' hq h
          have hnk : n - k = (n - (k + 1)) + 1 := by omega
          rcases frL_cases q.data.toList with ⟨h1, h2⟩ | ⟨f, hf, hft, hfk, hf0, hfu⟩
          · obtain ⟨c, hc⟩ : ∃ c, frL q.data.toList = (none, c) := ⟨(frL q.data.toList).2, by rw [← h1]⟩
            have hcne : c ≠ 0 := by rw [hc] at h2; exact h2
            have HR := hid (show arcL stp a0 s.data.toList = (c, a) by rw [← hO.out, hnk, arcF_bad hc])
            have hcb : (c != 0) = true := by simpa using hcne
            have HC := hid hc
            have HCN := hid hcne
            clear hc h1 h2 hnk hcne
            go_wp2_with fail
            refine (cf _ (hrr.at (by (repeat' (first | (with_reducible exact Below.refl _ _) | (with_reducible refine Below.alloc ?_ ?_ _) | (with_reducible refine Below.drew ?_) | (with_reducible refine below_drewN ?_ _) | (with_reducible refine Below.setCell ?_ ?_ _) | (with_reducible refine below_via ‹_› ?_ ?_) | (with_reducible refine below_grow ?_ ?_ _ _) | omega | (simp; done) | (simp; omega)))))).mono ?_
            intro e w3 h3
            obtain ⟨hb3, rfl⟩ := fri_none h3 HC.out
            have hz3 := hb3.size
            clear h3 cf
            go_wp2_with fail
            go_ret
            exact arcP_of HR.out (HT.out.stay _ _ _ _ hRk.out (by (repeat' (first | (with_reducible exact Below.refl _ _) | (with_reducible refine Below.alloc ?_ ?_ _) | (with_reducible refine Below.drew ?_) | (with_reducible refine below_drewN ?_ _) | (with_reducible refine Below.setCell ?_ ?_ _) | (with_reducible refine below_via ‹_› ?_ ?_) | (with_reducible refine below_grow ?_ ?_ _ _) | omega | (simp; done) | (simp; omega)))))
          · have HF := hid hf
            have hok : okItem f.it := by
              refine ⟨?_, by show _ ≤ 9223372036854775807; omega⟩
              have : (f.it.fKey.size : Int) ≤ 10 := by simp only [nameB, Bool.and_eq_true, decide_eq_true_eq] at hfk; exact hfk.1.1.2
              show _ ≤ 9223372036854775807; omega
            have hk1 : f.it.fKey.size ≤ 1000 := by
              have : (f.it.fKey.size : Int) ≤ 10 := by simp only [nameB, Bool.and_eq_true, decide_eq_true_eq] at hfk; exact hfk.1.1.2
              omega
            have ht1 : f.it.fText.size ≤ 1000 := by omega
            obtain ⟨nx, hnx⟩ : ∃ nx, nx = bs (q.data.toList.drop f.used) := ⟨_, rfl⟩
            have hnq : (nx.size : Int) ≤ 1048576 := by rw [hnx]; exact frame_drop rfl hq
            have hnl : nx.data.toList = q.data.toList.drop f.used := by rw [hnx, bs_list]
            have HNX := hid hnx
            obtain ⟨st, hst⟩ : ∃ st, st = stp a f.it (badB f) := ⟨_, rfl⟩
            have hgo : st.1 = 0 → arcF stp (n - (k + 1)) st.2 nx.data.toList = arcL stp a0 s.data.toList := fun h => by
              rw [hst] at h ⊢
              rw [← hO.out, hnk, arcF_go hf h, hnl]
            have hout : st.1 ≠ 0 → arcL stp a0 s.data.toList = st := fun h => by
              rw [hst] at h ⊢
              rw [← hO.out, hnk, arcF_out hf h]
            have HGO := hid hgo
            have HOUT := hid hout
            obtain ⟨ky, hky⟩ : ∃ y, y = f.it.fKey := ⟨_, rfl⟩
            obtain ⟨tx, htx⟩ : ∃ y, y = f.it.fText := ⟨_, rfl⟩
            obtain ⟨ck, hck⟩ : ∃ y, y = f.chk := ⟨_, rfl⟩
            obtain ⟨cv, hcv⟩ : ∃ y, y = chkV ky tx := ⟨_, rfl⟩
            have cch := fun w' => c_check ky tx w' (by rw [hky]; exact hk1) (by rw [htx]; exact ht1)
            rw [← hcv] at cch
            have hbd : (ck != cv) = badB f := by rw [hcv, hck, hky, htx]; rfl
            have ccl := fun w1 (h : Below wr.heap.size wr w1) => HT.out.call k wr w1 a f.it (badB f) hRk.out h (by omega) hok
            rw [← hky, ← htx, ← hst, ← hbd] at ccl
            have hent := HT.out.ent
            clear hf hnk hnx hnl hst hgo hout hcv hbd
            go_wp2_with fail
            refine (cf _ (hrr.at (by (repeat' (first | (with_reducible exact Below.refl _ _) | (with_reducible refine Below.alloc ?_ ?_ _) | (with_reducible refine Below.drew ?_) | (with_reducible refine below_drewN ?_ _) | (with_reducible refine Below.setCell ?_ ?_ _) | (with_reducible refine below_via ‹_› ?_ ?_) | (with_reducible refine below_grow ?_ ?_ _ _) | omega | (simp; done) | (simp; omega)))))).mono ?_
            intro e w3 h3
            obtain ⟨hb3, rfl⟩ := fri_some h3 HF.out
            rw [← hky, ← htx, ← hck, ← HNX.out]
            have hz3 := hb3.size
            clear h3 cf hky htx hck
            go_wp2_with fail
            obtain ⟨W4, hW4⟩ : ∃ z, z = w3.alloc (.cells #[.string ky, .string tx] 34) := ⟨_, rfl⟩
            obtain ⟨X, hX⟩ : ∃ X, X = w3.heap.size := ⟨_, rfl⟩
            rw [← hW4, ← hX]
            have hbx : Bk W4 X 34 [.string ky, .string tx] := by rw [hW4, hX]; exact (by (repeat' (first | (with_reducible exact Bk.new _ _ _) | (with_reducible refine Bk.new1 ?_; first | rfl | (simp; done) | omega) | (with_reducible assumption) | (with_reducible refine Bk.alloc ?_ _) | (with_reducible refine Bk.drew ?_) | (with_reducible refine Bk.drewN ?_ _) | (with_reducible refine Bk.other ?_ ?_ _) | (with_reducible apply Bk.drewBy; with_reducible assumption) | (with_reducible apply Bk.viaB; with_reducible assumption) | omega | (simp; done))))
            have hBW : Below wr.heap.size wr W4 := by rw [hW4]; (repeat' (first | (with_reducible exact Below.refl _ _) | (with_reducible refine Below.alloc ?_ ?_ _) | (with_reducible refine Below.drew ?_) | (with_reducible refine below_drewN ?_ _) | (with_reducible refine Below.setCell ?_ ?_ _) | (with_reducible refine below_via ‹_› ?_ ?_) | (with_reducible refine below_grow ?_ ?_ _ _) | omega | (simp; done) | (simp; omega)))
            have hxr : wr.heap.size ≤ X := by omega
            have hWs := hBW.size
            clear hW4 hX hb3 hz3
            have k0 : ∀ w', BkX X 34 [.string ky, .string tx] w' → w'.cell? ⟨X, 0, none⟩ = some (.string ky) := fun w' h => h.out.cell 0 rfl
            have k1 : ∀ w', BkX X 34 [.string ky, .string tx] w' → w'.cell? ⟨X, 1, none⟩ = some (.string tx) := fun w' h => h.out.cell 1 rfl
            obtain ⟨cd, hcd⟩ : ∃ cd, cd = st.1 := ⟨_, rfl⟩
            rw [← hcd] at ccl
            have HCD := hid hcd
            clear hcd
            go_region_held3 (fun w' => BkX X 34 [.string ky, .string tx] w') ((exact bkX_of (by (repeat' (first | (with_reducible exact Bk.new _ _ _) | (with_reducible refine Bk.new1 ?_; first | rfl | (simp; done) | omega) | (with_reducible assumption) | (with_reducible refine Bk.alloc ?_ _) | (with_reducible refine Bk.drew ?_) | (with_reducible refine Bk.drewN ?_ _) | (with_reducible refine Bk.other ?_ ?_ _) | (with_reducible apply Bk.drewBy; with_reducible assumption) | (with_reducible apply Bk.viaB; with_reducible assumption) | omega | (simp; done)))))) (first | (go_at_call 32; refine (cch _).mono ?_; rintro e w5 ⟨rfl, hb5⟩; have hx5 : Bk w5 X 34 [.string ky, .string tx] := (by (repeat' (first | (with_reducible exact Bk.new _ _ _) | (with_reducible refine Bk.new1 ?_; first | rfl | (simp; done) | omega) | (with_reducible assumption) | (with_reducible refine Bk.alloc ?_ _) | (with_reducible refine Bk.drew ?_) | (with_reducible refine Bk.drewN ?_ _) | (with_reducible refine Bk.other ?_ ?_ _) | (with_reducible apply Bk.drewBy; with_reducible assumption) | (with_reducible apply Bk.viaB; with_reducible assumption) | omega | (simp; done)))); have hB5 : Below wr.heap.size wr w5 := (by (repeat' (first | (with_reducible exact Below.refl _ _) | (with_reducible refine Below.alloc ?_ ?_ _) | (with_reducible refine Below.drew ?_) | (with_reducible refine below_drewN ?_ _) | (with_reducible refine Below.setCell ?_ ?_ _) | (with_reducible refine below_via ‹_› ?_ ?_) | (with_reducible refine below_grow ?_ ?_ _ _) | omega | (simp; done) | (simp; omega))))) | (refine (ccl _ (by (repeat' (first | (with_reducible exact Below.refl _ _) | (with_reducible refine Below.alloc ?_ ?_ _) | (with_reducible refine Below.drew ?_) | (with_reducible refine below_drewN ?_ _) | (with_reducible refine Below.setCell ?_ ?_ _) | (with_reducible refine below_via ‹_› ?_ ?_) | (with_reducible refine below_grow ?_ ?_ _ _) | omega | (simp; done) | (simp; omega))))).mono ?_; rintro e w6 ⟨rfl, hR6, hn6⟩; have hx6 : Bk w6 X 34 [.string ky, .string tx] := ((hn6 X hxr hx5.lt).2).trans hx5) | fail)
            have HR6 := hid hR6
            cases hc0 : (cd != 0)
            · have h0 : st.1 = 0 := by rw [← HCD.out]; simpa using hc0
              have HN2 := hid (HGO.out h0)
              clear hn6 hx6 hx5 hbx k0 k1 h0 ccl cch
              go_wp2_with fail
              go_roundw
              case rel => exact ⟨k + 1, nx, st.2, by omega, by go_num, rfl, hnq, HN2, hid (HT.out.stay _ _ _ _ HR6.out (by (repeat' (first | (with_reducible exact Below.refl _ _) | (with_reducible refine Below.alloc ?_ ?_ _) | (with_reducible refine Below.drew ?_) | (with_reducible refine below_drewN ?_ _) | (with_reducible refine Below.setCell ?_ ?_ _) | (with_reducible refine below_via ‹_› ?_ ?_) | (with_reducible refine below_grow ?_ ?_ _ _) | omega | (simp; done) | (simp; omega)))))⟩
              case measure => simp [intOf]; omega
            · have h0 : st.1 ≠ 0 := by rw [← HCD.out]; simpa using hc0
              have HN2 := hid (show arcL stp a0 s.data.toList = (cd, st.2) by rw [HOUT.out h0, HCD.out])
              clear hn6 hx6 hx5 hbx k0 k1 h0 ccl cch
              go_wp2_with fail
              go_ret
              exact arcP_of HN2.out (HT.out.stay _ _ _ _ HR6.out (by (repeat' (first | (with_reducible exact Below.refl _ _) | (with_reducible refine Below.alloc ?_ ?_ _) | (with_reducible refine Below.drew ?_) | (with_reducible refine below_drewN ?_ _) | (with_reducible refine Below.setCell ?_ ?_ _) | (with_reducible refine below_via ‹_› ?_ ?_) | (with_reducible refine below_grow ?_ ?_ _ _) | omega | (simp; done) | (simp; omega)))))
        · have e : k = n := by omega
          have hlI : ¬ (k : Int) < n := by omega
          have HX := hid (show arcL stp a0 s.data.toList = if q.data.toList = [] then (0, a) else (9, a) by rw [← hO.out, e, Nat.sub_self]; rfl)
          clear e
          cases hq0 : (q.toList == ([] : List UInt8))
          · have hq1 : (q.toList != ([] : List UInt8)) = true := by simp [bne, hq0]
            have HR := hid (show arcL stp a0 s.data.toList = (9, a) by rw [HX.out, if_neg (fun e => by rw [lst_nil.2 e] at hq0; cases hq0)])
            go_wp2_with fail
            go_ret
            exact arcP_of HR.out hRk.out
          · have hq1 : (q.toList != ([] : List UInt8)) = false := by simp [bne, hq0]
            have HR := hid (show arcL stp a0 s.data.toList = (0, a) by rw [HX.out, if_pos (lst_nil.1 hq0)])
            go_wp2_with fail
            go_ret
            exact arcP_of HR.out hRk.out
end Go.Proofs.YtabbhlehbhadiaaDoor
