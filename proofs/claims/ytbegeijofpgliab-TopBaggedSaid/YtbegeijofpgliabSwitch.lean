/-
  The doings, joined.
-/
import Derived.Test.YtbegeijofpgliabPuts
import Derived.Test.YtbegeijofpgliabDrops
import Derived.Test.YtbegeijofpgliabVecW
namespace Go.Proofs.Ytbegeijofpgliab
open Go.RowKit Go.Maps

theorem switch {a : Act} (w0 w : World) (F : Four) (bx be bg bd k : Nat) (S : St) (A1 : Option Addr) (c1 : Nat) (A2 : Option Addr) (c2 n n2 : Nat) (sl : Value) (x : Note5)
    (hfr : Fr 425 a [(0, sl), (5, .pointer (some ⟨F.b, 0, none⟩)), (6, .pointer (some ⟨F.t, 0, none⟩)), (7, .slice A2 S.L.length c2), (8, .int .i64 S.s), (9, .int .i64 S.l), (10, .map (some F.N)), (11, .func (.func 7) #[] #[]), (12, .int .i64 k), (13, .int .i64 k), (14, .pointer (some ⟨bx, 0, none⟩)), (15, .pointer (some ⟨be, 0, none⟩)),
      (16, .int .i64 ((x.q : Int) - 1)), (17, .bool (S.there x)), (18, .int .i64 (if S.there x = true then 0 else 9)), (19, .bool x.names), (20, .pointer (some ⟨bd, 0, none⟩)), (100, .int .u8 (x.op : Nat))])
    (hinv : Inv w0 F w A1 c1 S.L S.s S.l A2 c2 S.L n S.T k n2 S.T) (hloc : Loc F A1 A2 w bx be bg bd x k) (hok : S.Ok k) (hk : k < 40) (hn : n ≤ 2 * k) (hn2 : n2 ≤ 2 * k) :
    (part [1, 1, 1, 1, 1, 1, 1, 1, 0, 1] cB).wp Try.prog (Only (Sw w0 F sl k (S.step k x) bx be bg bd x)) a w := by
  have hop8 : x.op < 8 := Nat.mod_lt _ (by omega)
  have there_cases : (∃ j, x.q = j + 1 ∧ j < S.L.length ∧ S.there x = true) ∨ ((x.q = 0 ∨ S.L.length < x.q) ∧ S.there x = false) := by
    by_cases h : x.q = 0 ∨ S.L.length < x.q
    · exact .inr ⟨h, there_not h⟩
    · refine .inl ⟨x.q - 1, by omega, by omega, ?_⟩
      unfold St.there
      rw [Bool.and_eq_true, decide_eq_true_eq, decide_eq_true_eq]
      omega
  rcases (by omega : x.op = 0 ∨ x.op = 1 ∨ x.op = 2 ∨ x.op = 3 ∨ x.op = 4 ∨ x.op = 5 ∨ x.op = 6 ∨ x.op = 7) with hop | hop | hop | hop | hop | hop | hop | hop <;> rw [hop] at hfr
  · rcases hnm : x.names with _ | _ <;> rw [hnm] at hfr
    · exact put0n w0 w F bx be bg bd k S A1 c1 A2 c2 n n2 sl x _ _ hfr hinv hloc hok hk hn hn2 hop hnm
    · exact put0y w0 w F bx be bg bd k S A1 c1 A2 c2 n n2 sl x _ _ hfr hinv hloc hok hk hn hn2 hop hnm
  · rcases hnm : x.names with _ | _ <;> rw [hnm] at hfr
    · exact put1n w0 w F bx be bg bd k S A1 c1 A2 c2 n n2 sl x _ _ hfr hinv hloc hok hk hn hn2 hop hnm
    · exact put1y w0 w F bx be bg bd k S A1 c1 A2 c2 n n2 sl x _ _ hfr hinv hloc hok hk hn hn2 hop hnm
  · rcases there_cases with ⟨j, hj, hjl, ht⟩ | ⟨hth, ht⟩ <;> rw [ht] at hfr
    · rw [show ((x.q : Int) - 1) = (j : Int) from by omega] at hfr
      exact take2y w0 w F bx be bg bd k S A1 c1 A2 c2 n n2 sl x _ j hfr hinv hloc hok hk hn hn2 hop hj hjl
    · exact take2n w0 w F bx be bg bd k S A1 c1 A2 c2 n n2 sl x _ hfr hinv hloc hok hk hn hn2 hop hth
  · rcases there_cases with ⟨j, hj, hjl, ht⟩ | ⟨hth, ht⟩ <;> rw [ht] at hfr
    · rw [show ((x.q : Int) - 1) = (j : Int) from by omega] at hfr
      exact drop3y w0 w F bx be bg bd k S A1 c1 A2 c2 n n2 sl x _ j hfr hinv hloc hok hk hn hn2 hop hj hjl
    · exact drop3n w0 w F bx be bg bd k S A1 c1 A2 c2 n n2 sl x _ hfr hinv hloc hok hk hn hn2 hop hth
  · rcases there_cases with ⟨j, hj, hjl, ht⟩ | ⟨hth, ht⟩ <;> rw [ht] at hfr
    · rw [show ((x.q : Int) - 1) = (j : Int) from by omega] at hfr
      exact double4y w0 w F bx be bg bd k S A1 c1 A2 c2 n n2 sl x _ j hfr hinv hloc hok hk hn hn2 hop hj hjl
    · exact double4n w0 w F bx be bg bd k S A1 c1 A2 c2 n n2 sl x _ hfr hinv hloc hok hk hn hn2 hop hth
  · rcases (by omega : x.f = 0 ∨ 34 < x.f ∨ (1 ≤ x.f ∧ x.f ≤ 34 ∧ 34 < x.t) ∨ (1 ≤ x.f ∧ x.f ≤ 34 ∧ x.t = 0) ∨ (1 ≤ x.f ∧ x.f ≤ 34 ∧ 1 ≤ x.t ∧ x.t ≤ 34)) with hc | hc | hc | hc | hc
    · exact tag5a w0 w F bx be bg bd k S A1 c1 A2 c2 n n2 sl x _ _ _ hfr hinv hloc hok hk hn hn2 hop hc
    · exact tag5b w0 w F bx be bg bd k S A1 c1 A2 c2 n n2 sl x _ _ _ hfr hinv hloc hok hk hn hn2 hop hc
    · exact tag5c w0 w F bx be bg bd k S A1 c1 A2 c2 n n2 sl x _ _ _ hfr hinv hloc hok hk hn hn2 hop hc
    · exact tag5z w0 w F bx be bg bd k S A1 c1 A2 c2 n n2 sl x _ _ _ hfr hinv hloc hok hk hn hn2 hop hc
    · exact tag5y w0 w F bx be bg bd k S A1 c1 A2 c2 n n2 sl x _ _ _ hfr hinv hloc hok hk hn hn2 hop hc
  · rcases (by omega : x.f = 0 ∨ 34 < x.f ∨ (1 ≤ x.f ∧ x.f ≤ 34 ∧ 34 < x.t) ∨ (1 ≤ x.f ∧ x.f ≤ 34 ∧ x.t = 0) ∨ (1 ≤ x.f ∧ x.f ≤ 34 ∧ 1 ≤ x.t ∧ x.t ≤ 34)) with hc | hc | hc | hc | hc
    · exact tag6a w0 w F bx be bg bd k S A1 c1 A2 c2 n n2 sl x _ _ _ hfr hinv hloc hok hk hn hn2 hop hc
    · exact tag6b w0 w F bx be bg bd k S A1 c1 A2 c2 n n2 sl x _ _ _ hfr hinv hloc hok hk hn hn2 hop hc
    · exact tag6c w0 w F bx be bg bd k S A1 c1 A2 c2 n n2 sl x _ _ _ hfr hinv hloc hok hk hn hn2 hop hc
    · exact tag6z w0 w F bx be bg bd k S A1 c1 A2 c2 n n2 sl x _ _ _ hfr hinv hloc hok hk hn hn2 hop hc
    · exact tag6y w0 w F bx be bg bd k S A1 c1 A2 c2 n n2 sl x _ _ _ hfr hinv hloc hok hk hn hn2 hop hc
  · have hnamed : ∀ m, named m = true ↔ 1 ≤ m ∧ m ≤ 34 := fun m => by unfold named; simp
    rcases hf : named x.f with _ | _
    · have hnm : x.names = false := by unfold Note5.names; rw [hf]; rfl
      rw [hnm] at hfr
      exact vec7a w0 w F bx be bg bd k S A1 c1 A2 c2 n n2 sl x _ _ hfr hinv hloc hok hk hn hn2 hop hf
    · rcases ht : named x.t with _ | _
      · have hnm : x.names = false := by unfold Note5.names; rw [hf, ht]; rfl
        rw [hnm] at hfr
        exact vec7b w0 w F bx be bg bd k S A1 c1 A2 c2 n n2 sl x _ _ hfr hinv hloc hok hk hn hn2 hop ⟨hf, ht⟩
      · have hnm : x.names = true := by unfold Note5.names; rw [hf, ht]; rfl
        rw [hnm] at hfr
        have h1 := (hnamed _).1 hf
        have h2 := (hnamed _).1 ht
        have h3 : 1 ≤ x.r := by unfold Note5.r; omega
        by_cases hr : x.r ≤ 34
        · exact vec7y w0 w F bx be bg bd k S A1 c1 A2 c2 n n2 sl x _ _ hfr hinv hloc hok hk hn hn2 hop ⟨h1.1, h1.2, h2.1, h2.2, h3, hr⟩
        · exact vec7c w0 w F bx be bg bd k S A1 c1 A2 c2 n n2 sl x _ _ hfr hinv hloc hok hk hn hn2 hop ⟨hf, ht, Nat.not_le.1 hr⟩

end Go.Proofs.Ytbegeijofpgliab
