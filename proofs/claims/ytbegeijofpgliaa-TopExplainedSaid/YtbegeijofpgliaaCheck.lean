/-
  The walks of Check and of what it calls.
-/
import Derived.Test.YtbegeijofpgliaaBase
namespace Go.Proofs.Ytbegeijofpgliaa
open Go.RowKit

def badB (b e : Int) : Bool := decide (b < 1) || (e != 0 && decide (e ≤ b))
def badOp (x : LOp) : Bool := badB x.beg x.fin

theorem ret_b {a b : Bool} (h : a = b) : Ending.returned (.bool a) = .returned (.bool b) := by rw [h]

set_option maxHeartbeats 400000 in
theorem check1_any (wr : Bool) (v : Value) (b e : Int) (w : World) :
    Calls Try.prog 11 #[.agg #[.bool wr, v, .int .i64 b, .int .i64 e]] w fun r w' => r = .returned (.bool (badB b e)) ∧ Below w.heap.size w w' := by
  by_cases h1 : b < 1
  · have d1 : decide (b < 1) = true := by simpa using h1
    go_enter Try.func11, Try.ntmps11
    go_wp2
    go_ret
    exact ⟨ret_b (by simp [badB, d1]), (Below.refl _ _).alloc (Nat.le_refl _) _⟩
  · have d1 : decide (b < 1) = false := by simpa using h1
    by_cases h2 : e = 0
    · have d2 : (e != 0) = false := by simpa using h2
      have H2 := Lib.hid h2
      clear h2
      go_enter Try.func11, Try.ntmps11
      go_wp2
      go_ret
      exact ⟨ret_b (by simp [badB, d1, d2]), (Below.refl _ _).alloc (Nat.le_refl _) _⟩
    · have d2 : (e != 0) = true := by simpa using h2
      by_cases h3 : e ≤ b
      · have d3 : decide (e ≤ b) = true := by simpa using h3
        go_enter Try.func11, Try.ntmps11
        go_wp2
        go_ret
        exact ⟨ret_b (by simp [badB, d1, d2, d3]), (Below.refl _ _).alloc (Nat.le_refl _) _⟩
      · have d3 : decide (e ≤ b) = false := by simpa using h3
        go_enter Try.func11, Try.ntmps11
        go_wp2
        go_ret
        exact ⟨ret_b (by simp [badB, d1, d2, d3]), (Below.refl _ _).alloc (Nat.le_refl _) _⟩

/-- What IndexFunc answers. -/
def IndexPost (l : List LOp) (w : World) (e : Ending) (w' : World) : Prop :=
  Below w.heap.size w w' ∧ ∃ r : Int, e = .returned (.int .i64 r) ∧ ((0 ≤ r ∧ ∃ i, i < l.length ∧ badOp (opAt l i) = true) ∨ (r = -1 ∧ ∀ i, i < l.length → badOp (opAt l i) = false))

theorem bad_step {l : List LOp} {k : Nat} (h : ∀ j, j < k → badOp (opAt l j) = false) (h1 : badOp (opAt l k) = false) : ∀ j, j < k + 1 → badOp (opAt l j) = false := by
  intro i hi
  rcases Nat.lt_or_ge i k with h3 | h3
  · exact h i h3
  · obtain rfl : i = k := by omega
    exact h1

set_option maxHeartbeats 800000 in
theorem index_any (l : List LOp) (A : Option Addr) (c : Nat) (w : World) (hn : l.length ≤ 14) (hh : Hist w A l) :
    Calls Try.prog 16 #[.slice A l.length c, .func (.func 11) #[] #[]] w (IndexPost l w) := by
  have Hh := Lib.hid hh
  clear hh
  obtain ⟨n, hln⟩ : ∃ n, n = l.length := ⟨_, rfl⟩
  rw [← hln] at hn ⊢
  have Hln := Lib.hid hln
  clear hln
  go_enter Try.func16, Try.ntmps16
  go_wp2_with fail
  go_loopw [8, 5] (fun i _ wr => ∃ k : Nat, k ≤ n ∧ i = .int .i64 k ∧ Hid (∀ j, j < k → badOp (opAt l j) = false) ∧ Below w.heap.size w wr) (fun i _ _ => n - (intOf i).toNat)
  case atStart => exact ⟨0, by omega, rfl, fun j hj => by omega, Below.refl _ _⟩
  case round =>
    obtain ⟨k, hk, rfl, hkid, hb⟩ := hrel
    by_cases hlt : k < n
    · obtain ⟨b, rfl, hop⟩ := Hh.out (by rw [← Hln.out]; omega)
      obtain ⟨h0, ⟨g, h1, h1'⟩, h2, h3⟩ := (hop k (by rw [← Hln.out]; exact hlt)).below hb
      have Hop := Lib.hid hop
      clear hop h1'
      go_wp2_with fail
      with_reducible refine (check1_any _ _ _ _ _).mono ?_
      rintro e w1 ⟨rfl, hb1⟩
      have Hb := Lib.hid (hb.trans (hb1.mono hb.size))
      clear hb1
      by_cases hbad : badB (opAt l k).beg (opAt l k).fin = true
      · have Hbad := Lib.hid hbad
        rw [hbad]
        clear hbad
        go_wp2_with fail
        go_ret
        exact ⟨Hb.out, k, rfl, .inl ⟨by omega, k, by rw [← Hln.out]; exact hlt, Hbad.out⟩⟩
      · have hbad := Bool.eq_false_iff.2 hbad
        have Hbad := Lib.hid hbad
        rw [hbad]
        clear hbad
        go_wp2_with fail
        go_roundw
        case rel => exact ⟨k + 1, by omega, by go_num, bad_step hkid.out Hbad.out, Hb.out⟩
        case measure => simp [intOf]; omega
    · obtain rfl : k = n := by omega
      go_wp2_with fail
      go_ret
      exact ⟨hb, -1, rfl, .inr ⟨rfl, by rw [← Hln.out]; exact hkid.out⟩⟩

def anyBad (l : List LOp) : Prop := ∃ i, i < l.length ∧ badOp (opAt l i) = true

noncomputable instance (l : List LOp) : Decidable (anyBad l) := Classical.propDecidable _

set_option maxHeartbeats 800000 in
theorem contains_any (l : List LOp) (A : Option Addr) (c : Nat) (w : World) (hn : l.length ≤ 14) (hh : Hist w A l) :
    Calls Try.prog 10 #[.slice A l.length c, .func (.func 11) #[] #[]] w fun e w' => e = .returned (.bool (decide (anyBad l))) ∧ Below w.heap.size w w' := by
  have H := Lib.hid (index_any l A c w hn hh)
  clear hh hn
  go_enter Try.func10, Try.ntmps10
  go_wp2_with fail
  with_reducible refine H.out.mono ?_
  rintro e w1 ⟨hb, r, rfl, ⟨h1, h2⟩ | ⟨rfl, h2⟩⟩
  · have H2 := Lib.hid h2
    clear h2
    have d : decide (0 ≤ r) = true := by simpa using h1
    go_wp2_with fail
    go_ret
    exact ⟨ret_b (by rw [decide_eq_true (show anyBad l from H2.out)]), hb⟩
  · have H2 := Lib.hid h2
    clear h2
    go_wp2_with fail
    go_ret
    exact ⟨ret_b (by rw [decide_eq_false]; rintro ⟨i, hi, hx⟩; rw [H2.out i hi] at hx; cases hx), hb⟩

/-- Check's answer. -/
noncomputable def checkE (l : List LOp) : Int := if 14 < l.length then 5 else if anyBad l then 2 else 0

theorem ret_i {a b : Int} (h : a = b) : Ending.returned (.int .i64 a) = .returned (.int .i64 b) := by rw [h]

set_option maxHeartbeats 800000 in
theorem check_any (l : List LOp) (A : Option Addr) (c : Nat) (w : World) (hn : l.length ≤ 14) (hh : Hist w A l) :
    Calls Try.prog 6 #[.slice A l.length c] w fun e w' => e = .returned (.int .i64 (checkE l)) ∧ Below w.heap.size w w' := by
  have H := Lib.hid (contains_any l A c w hn hh)
  clear hh
  obtain ⟨n, hln⟩ : ∃ n, n = l.length := ⟨_, rfl⟩
  rw [← hln] at hn H ⊢
  have Hln := Lib.hid hln
  clear hln
  go_enter Try.func6, Try.ntmps6
  go_wp2_with fail
  with_reducible refine H.out.mono ?_
  rintro e w1 ⟨rfl, hb⟩
  by_cases h : anyBad l
  · rw [decide_eq_true h]
    have H2 := Lib.hid h
    clear h
    go_wp2_with fail
    go_ret
    exact ⟨ret_i (by unfold checkE; rw [if_neg (by rw [← Hln.out]; omega), if_pos H2.out]), hb⟩
  · rw [decide_eq_false h]
    have H2 := Lib.hid h
    clear h
    go_wp2_with fail
    go_ret
    exact ⟨ret_i (by unfold checkE; rw [if_neg (by rw [← Hln.out]; omega), if_neg H2.out]), hb⟩

set_option maxHeartbeats 800000 in
theorem check_long (n : Nat) (A : Option Addr) (c : Nat) (w : World) (hn : 14 < n) :
    Calls Try.prog 6 #[.slice A n c] w fun e w' => e = .returned (.int .i64 5) ∧ w' = w := by
  go_enter Try.func6, Try.ntmps6
  go_wp2_with fail
  go_ret
  exact ⟨rfl, rfl⟩

end Go.Proofs.Ytbegeijofpgliaa
