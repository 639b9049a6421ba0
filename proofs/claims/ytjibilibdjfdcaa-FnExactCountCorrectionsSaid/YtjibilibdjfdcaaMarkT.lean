/- The text of a mark. -/
import Derived.Test.YtjibilibdjfdcaaBase
import Derived.Laws.IdiomStrings
namespace Go.Proofs.Ytjibilibdjfdcaa
open Go.RowKit Go.Sort
set_option maxRecDepth 100000

def digB (k : Nat) : ByteArray := ⟨#[(48 + k % 10).toUInt8]⟩
def decP : Nat → Nat → ByteArray → ByteArray
  | 0, _, o => o
  | n + 1, k, o => if k = 0 then o else decP n (k / 10) (digB k ++ o)
theorem decP_zero (n : Nat) (o : ByteArray) : decP n 0 o = o := by cases n <;> simp [decP]
theorem decP_pos {n k : Nat} {o : ByteArray} (h : 0 < k) : decP (n + 1) k o = decP n (k / 10) (digB k ++ o) := by rw [decP, if_neg (by omega)]
def mkB (k : Int) : ByteArray := if k ≤ 0 then ⟨#[109, 48]⟩ else ⟨#[109]⟩ ++ decP 18 k.toNat ByteArray.empty
set_option maxHeartbeats 1000000 in
theorem c_markText (k : Int) (w : World) (h0 : 0 ≤ k) (h1 : k < 1000000000000000000) :
    Calls Try.prog 29 #[.int .i64 k] w fun e w' => e = .returned (.string (mkB k)) ∧ Below w.heap.size w w' := by
  by_cases hk : k ≤ 0
  · have HM := hid (show mkB k = ⟨#[109, 48]⟩ by rw [mkB, if_pos hk])
    go_enter Try.func29, Try.ntmps29
    go_wp2
    go_ret
    exact ⟨by rw [HM.out]; rfl, by (repeat' (first | (with_reducible exact Below.refl _ _) | (with_reducible refine Below.alloc ?_ ?_ _) | (with_reducible refine Below.drew ?_) | (with_reducible refine below_drewN ?_ _) | (with_reducible refine Below.setCell ?_ ?_ _) | (with_reducible refine below_via ‹_› ?_ ?_) | (with_reducible refine below_grow ?_ ?_ _ _) | omega | (simp; done) | (simp; omega)))⟩
  · have HM := hid (show mkB k = ⟨#[109]⟩ ++ decP 18 k.toNat ByteArray.empty by rw [mkB, if_neg hk])
    go_enter Try.func29, Try.ntmps29
    go_wp2
    go_loopw [0, 3] (fun q r wr => ∃ (m n : Nat) (o : ByteArray), q = .int .i64 m ∧ r = .string o ∧ m < 10 ^ n ∧ n ≤ 18 ∧ o.size + n ≤ 18 ∧ decP 18 k.toNat ByteArray.empty = decP n m o ∧ Below w.heap.size w wr) (fun q _ _ => (intOf q).toNat)
    case atStart => exact ⟨k.toNat, 18, ByteArray.empty, by congr 1; omega, rfl, by omega, by omega, by simp, rfl, by (repeat' (first | (with_reducible exact Below.refl _ _) | (with_reducible refine Below.alloc ?_ ?_ _) | (with_reducible refine Below.drew ?_) | (with_reducible refine below_drewN ?_ _) | (with_reducible refine Below.setCell ?_ ?_ _) | (with_reducible refine below_via ‹_› ?_ ?_) | (with_reducible refine below_grow ?_ ?_ _ _) | omega | (simp; done) | (simp; omega)))⟩
    case round =>
      obtain ⟨m, n, o, rfl, rfl, hm, hn, ho, hd, hB⟩ := hrel
      have hzr := hB.size
      by_cases h : 0 < m
      · have hmI : (0 : Int) < m := by omega
        have HD := hid hd
        clear hd
        have hdig : (((48 + m % 10).toUInt8).toNat : Int) = 48 + (m : Int) % 10 := by
          have : ((48 + m % 10).toUInt8).toNat = 48 + m % 10 := by simp [Nat.toUInt8]; omega
          omega
        have kq : (convert 78 9 (.slice (some ⟨wr.heap.size, 0, none⟩) 1 1)).run Try.prog (wr.alloc (.cells #[.int .u8 (48 + (m : Int) % 10)] 5)) = .ok (.string (digB m)) (wr.alloc (.cells #[.int .u8 (48 + (m : Int) % 10)] 5)) :=
          run_convert_bytes_back (P := Try.prog) _ 78 9 5 ⟨wr.heap.size, 0, none⟩ 1 [(48 + m % 10).toUInt8] Try.underlying78 Try.underlying5 Try.underlying9 (fun j hj => by
            have : j = 0 := by simp at hj; omega
            subst this
            rw [Addr.add_lit, World.cell?_alloc_at _ _ _ _ rfl]
            simp only [List.getElem_cons_zero, hdig]; rfl)
        have hdv : (m : Int) / 10 = ((m / 10 : Nat) : Int) := by omega
        clear hdig
        obtain ⟨n', rfl⟩ : ∃ n', n = n' + 1 := ⟨n - 1, by
          have : n ≠ 0 := fun e => by subst e; simp at hm; omega
          omega⟩
        have hm' : m / 10 < 10 ^ n' := by rw [Nat.pow_succ] at hm; omega
        have hsz : (digB m ++ o).size + n' ≤ 18 := by
          rw [ByteArray.size_append]; have : (digB m).size = 1 := rfl
          omega
        have HX := hid (And.intro hdv (And.intro hm' hsz))
        have HE := hid (decP_pos (n := n') (o := o) h)
        have hmb : m ≤ 1000000000000000000 := by
          have : 10 ^ (n' + 1) ≤ 10 ^ 18 := Nat.pow_le_pow_right (by omega) hn
          omega
        have hmI2 : (m : Int) ≤ 1000000000000000000 := by omega
        have hs2 : (digB m).size + o.size ≤ 18 := by rw [ByteArray.size_append] at hsz; omega
        clear hdv hm' hsz hm
        go_wp2
        go_roundw
        case rel => exact ⟨m / 10, n', digB m ++ o, by rw [HX.out.1], rfl, HX.out.2.1, by omega, HX.out.2.2, HD.out.trans HE.out, by (repeat' (first | (with_reducible exact Below.refl _ _) | (with_reducible refine Below.alloc ?_ ?_ _) | (with_reducible refine Below.drew ?_) | (with_reducible refine below_drewN ?_ _) | (with_reducible refine Below.setCell ?_ ?_ _) | (with_reducible refine below_via ‹_› ?_ ?_) | (with_reducible refine below_grow ?_ ?_ _ _) | omega | (simp; done) | (simp; omega)))⟩
        case measure => simp [intOf]; omega
      · have hm0 : m = 0 := by omega
        subst hm0
        have HF := hid (show mkB k = ⟨#[109]⟩ ++ o by rw [HM.out, hd, decP_zero])
        clear hd hm
        have hs2 : o.size ≤ 18 := by omega
        go_wp2
        go_ret
        exact ⟨by rw [HF.out]; rfl, by (repeat' (first | (with_reducible exact Below.refl _ _) | (with_reducible refine Below.alloc ?_ ?_ _) | (with_reducible refine Below.drew ?_) | (with_reducible refine below_drewN ?_ _) | (with_reducible refine Below.setCell ?_ ?_ _) | (with_reducible refine below_via ‹_› ?_ ?_) | (with_reducible refine below_grow ?_ ?_ _ _) | omega | (simp; done) | (simp; omega)))⟩
end Go.Proofs.Ytjibilibdjfdcaa
