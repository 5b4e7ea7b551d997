/-
  The walks of Next and of its closures.
-/
import Derived.Test.YtbegeijofpgliabBagB
import Derived.Laws.EntriesVeiled
namespace Go.Proofs.Ytbegeijofpgliab
open Go.RowKit

/-- Is a name in a set? -/
def inn (S : Int) (n : Nat) : Bool := bits .and .i64 (S / 2 ^ n) 1 == 1

def hit (S : Int) (m : Msg) : Bool := inn S m.frm && inn S m.to

theorem in29 {w : World} {b : Nat} {S : Int} (hc : w.cell? ⟨b, 0, none⟩ = some (.int .i64 S)) (n : Nat) (hn : n ≤ 40) :
    Calls Try.prog 29 #[.int .i64 (n : Int), .pointer (some ⟨b, 0, none⟩)] w fun e w' => e = .returned (.bool (inn S n)) ∧ w' = w := by
  have h0 : (0 : Int) ≤ (n : Int) := by omega
  have h1 : (n : Int) ≤ 64 := by omega
  go_enter Try.func29, Try.ntmps29
  go_wp2
  go_ret
  exact ⟨rfl, rfl⟩

/-- The closures of Next in memory. -/
structure Clo (w : World) (bf bs : Nat) (S : Int) : Prop where
  f : w.cell? ⟨bf, 0, none⟩ = some (.func (.func 29) #[] #[.pointer (some ⟨bs, 0, none⟩)])
  s : w.cell? ⟨bs, 0, none⟩ = some (.int .i64 S)

theorem Clo.below {w w' : World} {bf bs : Nat} {S : Int} (h : Clo w bf bs S) (hb : Below w.heap.size w w') : Clo w' bf bs S := ⟨cell_later hb h.f, cell_later hb h.s⟩

set_option maxHeartbeats 400000 in
theorem pred31 {w : World} {bf bs : Nat} {S : Int} (hc : Clo w bf bs S) (m : Msg) (v : Value) (h1 : named m.frm = true) (h2 : named m.to = true) :
    Calls Try.prog 31 #[.agg #[.int .i64 (m.frm : Int), .int .i64 (m.to : Int), v], .pointer (some ⟨bf, 0, none⟩)] w fun e w' => e = .returned (.bool (hit S m)) ∧ Below w.heap.size w w' := by
  simp only [named, Bool.and_eq_true, decide_eq_true_eq] at h1 h2
  have H1 := Lib.hid h1
  have H2 := Lib.hid h2
  obtain ⟨w0, hw0⟩ : ∃ w0, w0 = w.alloc (Obj.cells #[.int .i64 (m.frm : Int), .int .i64 (m.to : Int), v] 36) := ⟨_, rfl⟩
  have hb0 : Below w.heap.size w w0 := by rw [hw0]; exact (Below.refl _ w).alloc (Nat.le_refl _) _
  have b0 : w0.heap[w.heap.size]? = some (.cells #[.int .i64 (m.frm : Int), .int .i64 (m.to : Int), v] 36 (0, 0)) := by rw [hw0]; exact heap_alloc_new w _
  have hc0 := hc.below hb0
  have hf := hc0.f
  have hs := hc0.s
  have hf0 := hc.f
  have hlt : bf < w.heap.size := World.block_lt_of_cell? w _ hf0
  have r0 := cell_of_row w0 _ 0 _ _ _ b0
  have r1 := cell_of_row w0 _ 1 _ _ _ b0
  simp only [List.getElem?_toArray, List.getElem?_cons_zero, List.getElem?_cons_succ] at r0 r1
  have Hw0 := Lib.hid hw0
  have Hb0 := Lib.hid hb0
  have Hs := Lib.hid hs
  clear h1 h2 hw0 hb0 b0 hc0 hs
  have hi1 := in29 Hs.out m.frm (by have := H1.out; omega)
  have hi2 := in29 Hs.out m.to (by have := H2.out; omega)
  rcases e1 : inn S m.frm with _ | _
  · rw [e1] at hi1
    have Hi1 := Lib.hid hi1
    have Hi2 := Lib.hid hi2
    have E1 := Lib.hid e1
    clear hi1 hi2 e1
    go_enter Try.func31, Try.ntmps31
    go_wp2_with fail
    rw [← Hw0.out]
    with_reducible refine Hi1.out.mono ?_
    rintro e w1 ⟨rfl, rfl⟩
    go_wp2_with fail
    go_ret
    exact ⟨by unfold hit; rw [E1.out]; rfl, Hb0.out⟩
  · rw [e1] at hi1
    have Hi1 := Lib.hid hi1
    have Hi2 := Lib.hid hi2
    have E1 := Lib.hid e1
    clear hi1 hi2 e1
    go_enter Try.func31, Try.ntmps31
    go_wp2_with fail
    rw [← Hw0.out]
    with_reducible refine Hi1.out.mono ?_
    rintro e w1 ⟨rfl, rfl⟩
    go_wp2_with fail
    with_reducible refine Hi2.out.mono ?_
    rintro e w2 ⟨rfl, rfl⟩
    go_wp2_with fail
    go_ret
    exact ⟨by unfold hit; rw [E1.out]; rfl, Hb0.out⟩

/-- The first that is hit. -/
def First (S : Int) (L : List Msg) (r : Int) : Prop :=
  (∃ (k : Nat) (m : Msg), r = k ∧ L[k]? = some m ∧ hit S m = true ∧ ∀ (j : Nat) (m' : Msg), j < k → L[j]? = some m' → hit S m' = false) ∨
  (r = -1 ∧ ∀ (j : Nat) (m' : Msg), L[j]? = some m' → hit S m' = false)

theorem First.uniq {S : Int} {L : List Msg} {r r' : Int} (h : First S L r) (h' : First S L r') : r = r' := by
  rcases h with ⟨k, m, rfl, h1, h2, h3⟩ | ⟨rfl, h1⟩ <;> rcases h' with ⟨k', m', rfl, g1, g2, g3⟩ | ⟨rfl, g1⟩
  · rcases Nat.lt_trichotomy k k' with e | e | e
    · rw [g3 k m e h1] at h2; cases h2
    · rw [e]
    · rw [h3 k' m' e g1] at g2; cases g2
  · rw [g1 k m h1] at h2; cases h2
  · rw [h1 k' m' g1] at g2; cases g2
  · rfl

set_option maxHeartbeats 1000000 in
theorem index30 {w : World} {bf bs : Nat} {S : Int} (hc : Clo w bf bs S) {A : Option Addr} {cap : Nat} {L : List Msg} (hh : Has w A cap L) (hL : L.length ≤ 100) (hnm : ∀ m ∈ L, named m.frm = true ∧ named m.to = true ∧ m.k < 40) (n : Nat) (hn : n = L.length) :
    Calls Try.prog 30 #[.slice A n cap, .func (.func 31) #[] #[.pointer (some ⟨bf, 0, none⟩)]] w fun e w' => Below w.heap.size w w' ∧ ∃ r : Int, e = .returned (.int .i64 r) ∧ First S L r := by
  have Hc := Lib.hid hc
  have Hh := Lib.hid hh
  have Hnm := Lib.hid hnm
  have Hn := Lib.hid hn
  have HL := Lib.hid hL
  have hn100 : n ≤ 100 := by omega
  clear hc hh hnm hn hL
  go_enter Try.func30, Try.ntmps30
  go_wp2_with fail
  go_loopw [8, 5] (fun i _ wr => ∃ k : Nat, k ≤ n ∧ i = .int .i64 k ∧ Hid (∀ (j : Nat) (m' : Msg), j < k → L[j]? = some m' → hit S m' = false) ∧ Below w.heap.size w wr) (fun i _ _ => n - (intOf i).toNat)
  case atStart => exact ⟨0, by omega, rfl, fun j m' hj => by omega, Below.refl _ _⟩
  case round =>
    obtain ⟨k, hk, rfl, hkid, hb⟩ := hrel
    by_cases hlt : k < n
    · obtain ⟨m, hm⟩ : ∃ m, L[k]? = some m := ⟨L[k]'(by rw [← Hn.out]; exact hlt), List.getElem?_eq_getElem _⟩
      obtain ⟨xs, hrow, hms⟩ := Hh.out
      obtain ⟨gN, hA⟩ := hrow.some (by rw [← Hn.out]; omega)
      obtain ⟨g1, c1, x0, x1, x2, hby⟩ := hms.2 k m hm
      have y0 := cell_later hb (hrow.cell hA _ _ x0)
      have y1 := cell_later hb (hrow.cell hA _ _ x1)
      have y2 := cell_later hb (hrow.cell hA _ _ x2)
      subst hA
      have hmn := Hnm.out m (List.mem_of_getElem? hm)
      have hp := pred31 (Hc.out.below hb) m (.slice (some ⟨g1, 0, none⟩) 2 c1) hmn.1 hmn.2.1
      have Hp := Lib.hid hp
      have Hm := Lib.hid hm
      have Hb := Lib.hid hb
      clear hrow hms x0 x1 x2 hby hmn hp hm hb
      go_wp2_with fail
      with_reducible refine Hp.out.mono ?_
      rintro e w1 ⟨rfl, hb1⟩
      have Hbb := Lib.hid (Hb.out.trans (hb1.mono Hb.out.size))
      clear hb1 y0 y1 y2
      rcases ht : hit S m with _ | _
      · have Ht := Lib.hid ht
        clear ht
        go_wp2_with fail
        go_roundw
        case rel =>
          refine ⟨k + 1, by omega, by go_num, fun j m' hj hj' => ?_, Hbb.out⟩
          rcases Nat.lt_or_ge j k with h3 | h3
          · exact hkid.out j m' h3 hj'
          · obtain rfl : j = k := by omega
            rw [Hm.out] at hj'; cases hj'; exact Ht.out
        case measure => simp [intOf]; omega
      · have Ht := Lib.hid ht
        clear ht
        go_wp2_with fail
        go_ret
        exact ⟨Hbb.out, k, rfl, .inl ⟨k, m, rfl, Hm.out, Ht.out, hkid.out⟩⟩
    · obtain rfl : k = n := by omega
      go_wp2_with fail
      go_ret
      refine ⟨hb, -1, rfl, .inr ⟨rfl, fun j m' hj => hkid.out j m' ?_ hj⟩⟩
      rw [Hn.out]
      rcases Nat.lt_or_ge j L.length with h3 | h3
      · exact h3
      · rw [List.getElem?_eq_none h3] at hj; cases hj

set_option maxHeartbeats 400000 in
theorem next20 {w : World} {g : Nat} {A : Option Addr} {cap : Nat} {L : List Msg} {s l : Nat} (h : Bag w g A cap L s l) (S : Int) (hL : L.length ≤ 100) (hnm : ∀ m ∈ L, named m.frm = true ∧ named m.to = true ∧ m.k < 40) :
    Calls Try.prog 20 #[.pointer (some ⟨g, 0, none⟩), .int .i64 S] w fun e w' => Below w.heap.size w w' ∧ ∃ r : Int, e = .returned (.int .i64 r) ∧ First S L r := by
  obtain ⟨n, hn⟩ : ∃ n, n = L.length := ⟨_, rfl⟩
  obtain ⟨w0, hw0⟩ : ∃ w0, w0 = w.alloc (Obj.cells #[.int .i64 S] 3) := ⟨_, rfl⟩
  have hb0 : Below w.heap.size w w0 := by rw [hw0]; exact (Below.refl _ w).alloc (Nat.le_refl _) _
  have hs0 : w0.heap.size = w.heap.size + 1 := by rw [hw0]; simp
  have c0 : w0.cell? ⟨w.heap.size, 0, none⟩ = some (.int .i64 S) := by rw [hw0, World.cell?_alloc_at _ _ _ _ rfl]; rfl
  obtain ⟨w1, hw1⟩ : ∃ w1, w1 = w0.alloc (Obj.cells #[.func (.func 29) #[] #[.pointer (some ⟨w.heap.size, 0, none⟩)]] 63) := ⟨_, rfl⟩
  have hb1 : Below w0.heap.size w0 w1 := by rw [hw1]; exact (Below.refl _ w0).alloc (Nat.le_refl _) _
  have c1 : w1.cell? ⟨w0.heap.size, 0, none⟩ = some (.func (.func 29) #[] #[.pointer (some ⟨w.heap.size, 0, none⟩)]) := by rw [hw1, World.cell?_alloc_at _ _ _ _ rfl]; rfl
  have hc1 : Clo w1 w0.heap.size w.heap.size S := ⟨c1, cell_later hb1 c0⟩
  have hbag0 := h.later hb0
  have hbag1 := hbag0.later hb1
  obtain ⟨q0, q1, q2, q3, q4⟩ := hbag0.cells
  rw [← hn] at q1
  have hlt0 := hbag0.lt
  have hix := index30 hc1 hbag1.has hL hnm n hn
  have Hix := Lib.hid hix
  have Hbb := Lib.hid (hb0.trans (hb1.mono hb0.size))
  have Hbag0 := Lib.hid hbag0
  have Hw0 := Lib.hid hw0
  have Hw1 := Lib.hid hw1
  clear hix hbag1 q0 q2 q3 q4 hc1 c1 c0 hb1 hb0 hw0 hw1 hs0 hbag0 hn hL hnm h
  go_enter Try.func20, Try.ntmps20
  go_wp2_with fail
  rw [← Hw0.out]
  with_reducible refine (none22 Hbag0.out).mono ?_
  rintro e w2 ⟨rfl, rfl⟩
  go_wp2_with fail
  rw [← Hw1.out]
  with_reducible refine Hix.out.mono ?_
  rintro e w3 ⟨hb3, r, rfl, hr⟩
  have Hr := Lib.hid hr
  have Hb3 := Lib.hid (Hbb.out.trans (hb3.mono Hbb.out.size))
  clear hr hb3
  go_wp2_with fail
  go_ret
  exact ⟨Hb3.out, r, rfl, Hr.out⟩
end Go.Proofs.Ytbegeijofpgliab
