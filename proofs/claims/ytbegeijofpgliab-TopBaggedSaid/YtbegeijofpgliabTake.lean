/-
  The walks of Take, Drop and Double.
-/
import Derived.Test.YtbegeijofpgliabPut
namespace Go.Proofs.Ytbegeijofpgliab
open Go.RowKit

/-- The list without its j-th. -/
def off (L : List Msg) (j : Nat) : List Msg := L.take j ++ L.drop (j + 1)

theorem Msgs.one {w : World} {xs : List Value} {L : List Msg} (h : Msgs w xs L) : ∀ u ∈ xs, u.oneCell' = true := by
  intro u hu
  obtain ⟨j, hj⟩ := List.getElem?_of_mem hu
  have hlt : j < xs.length := by
    rcases Nat.lt_or_ge j xs.length with h1 | h1
    · exact h1
    · rw [List.getElem?_eq_none h1] at hj; cases hj
  have h1 := h.1
  have hk : j / 3 < L.length := by omega
  obtain ⟨g, c, a0, a1, a2, _⟩ := h.2 (j / 3) L[j / 3] (List.getElem?_eq_getElem hk)
  have h3 : j = j / 3 * 3 ∨ j = j / 3 * 3 + 1 ∨ j = j / 3 * 3 + 2 := by omega
  rcases h3 with e | e | e <;> rw [e] at hj
  · rw [a0] at hj; cases hj; rfl
  · rw [a1] at hj; cases hj; rfl
  · rw [a2] at hj; cases hj; rfl

theorem Msgs.off {w : World} {xs : List Value} {L : List Msg} (h : Msgs w xs L) {k : Nat} (hk : k < L.length) : Msgs w (xs.take (k * 3) ++ xs.drop ((k + 1) * 3)) (off L k) := by
  have h1 := h.1
  refine ⟨by simp [Ytbegeijofpgliab.off]; omega, fun j m hj => ?_⟩
  unfold Ytbegeijofpgliab.off at hj
  by_cases hjk : j < k
  · rw [List.getElem?_append_left (by simp; omega), List.getElem?_take, if_pos hjk] at hj
    obtain ⟨g, c, a0, a1, a2, a3⟩ := h.2 j m hj
    refine ⟨g, c, ?_, ?_, ?_, a3⟩
    · rw [List.getElem?_append_left (by simp; omega), List.getElem?_take, if_pos (by omega)]; exact a0
    · rw [List.getElem?_append_left (by simp; omega), List.getElem?_take, if_pos (by omega)]; exact a1
    · rw [List.getElem?_append_left (by simp; omega), List.getElem?_take, if_pos (by omega)]; exact a2
  · rw [List.getElem?_append_right (by simp; omega), List.getElem?_drop] at hj
    have e : k + 1 + (j - (L.take k).length) = j + 1 := by simp; omega
    rw [e] at hj
    obtain ⟨g, c, a0, a1, a2, a3⟩ := h.2 (j + 1) m hj
    have e2 : ∀ d, d < 3 → (k + 1) * 3 + (j * 3 + d - (xs.take (k * 3)).length) = (j + 1) * 3 + d := by intro d hd; simp; omega
    refine ⟨g, c, ?_, ?_, ?_, a3⟩
    · have := e2 0 (by omega)
      rw [List.getElem?_append_right (by simp; omega), List.getElem?_drop]
      simp only [Nat.add_zero] at this
      rw [this]; exact a0
    · rw [List.getElem?_append_right (by simp; omega), List.getElem?_drop, e2 1 (by omega)]; exact a1
    · rw [List.getElem?_append_right (by simp; omega), List.getElem?_drop, e2 2 (by omega)]; exact a2

theorem bag_notes {w : World} {g : Nat} {A : Option Addr} {cap : Nat} {L : List Msg} {v : Value} {s l : Nat} (h : w.heap[g]? = some (.cells #[.bool true, v, .int .i64 s, .int .i64 l] 58 (0, 0))) (hh : Has w A cap L) :
    Bag (w.setCell ⟨g, 1, none⟩ (.slice A L.length cap)) g A cap L s l := by
  have h1 := heap_setCell_same w g 1 _ _ (.slice A L.length cap) h
  exact ⟨⟨_, h1, by simp⟩, has_set58 h _ _ hh⟩

theorem Bag.set36 {w : World} {g : Nat} {A : Option Addr} {cap : Nat} {L : List Msg} {s l : Nat} (h : Bag w g A cap L s l) {b : Nat} {cs : Array Value} (hb : w.heap[b]? = some (.cells cs 36 (0, 0))) (hne : some b ≠ blk A) (i : Nat) (v : Value) : Bag (w.setCell ⟨b, i, none⟩ v) g A cap L s l := by
  refine h.other (fun k _ hk => heap_setCell_other _ _ _ _ ?_) (fun k c hk => ?_)
  · rintro rfl
    rcases hk with e | e
    · subst e
      obtain ⟨c, h1, _⟩ := h.is
      rw [h1] at hb; simp at hb
    · exact hne e
  · rw [heap_setCell_other _ _ _ _ (by rintro rfl; rw [hk] at hb; simp at hb)]
    exact hk

/-- A bag, its frame, and a note's bytes, behind three stores into a fresh note. -/
theorem three_sets {w wz : World} {g b g1 : Nat} {A A' : Option Addr} {cap : Nat} {L : List Msg} {s l : Nat} {m : Msg} {cs : Array Value} (h : Bag wz g A' cap L s l) (hk : Kept g A w wz) (hby : Byt wz g1 m) (hb : wz.heap[b]? = some (.cells cs 36 (0, 0))) (hw : w.heap.size ≤ b) (hne : some b ≠ blk A') (v0 v1 v2 : Value) :
    Bag (((wz.setCell ⟨b, 0, none⟩ v0).setCell ⟨b, 1, none⟩ v1).setCell ⟨b, 2, none⟩ v2) g A' cap L s l ∧ Kept g A w (((wz.setCell ⟨b, 0, none⟩ v0).setCell ⟨b, 1, none⟩ v1).setCell ⟨b, 2, none⟩ v2) ∧ Byt (((wz.setCell ⟨b, 0, none⟩ v0).setCell ⟨b, 1, none⟩ v1).setCell ⟨b, 2, none⟩ v2) g1 m := by
  have b1 := heap_setCell_same wz b 0 _ _ v0 hb
  have b2 := heap_setCell_same _ b 1 _ _ v1 b1
  have hn := hby.ne hb
  refine ⟨((h.set36 hb hne 0 v0).set36 b1 hne 1 v1).set36 b2 hne 2 v2, ⟨hk.os, hk.tape, hk.output, by simpa using hk.size, fun k e1 e2 e3 => ?_⟩, ((hby.set hn _).set hn _).set hn _⟩
  rw [heap_setCell_other _ _ _ _ (by show k ≠ b; omega), heap_setCell_other _ _ _ _ (by show k ≠ b; omega), heap_setCell_other _ _ _ _ (by show k ≠ b; omega)]
  exact hk.block k e1 e2 e3

theorem Bag.drew {w : World} {g : Nat} {A : Option Addr} {cap : Nat} {L : List Msg} {s l : Nat} (h : Bag w g A cap L s l) : Bag w.drew g A cap L s l := h.other (fun _ _ _ => rfl) (fun _ _ h => h)
theorem Byt.drew {w : World} {g : Nat} {m : Msg} (h : Byt w g m) : Byt w.drew g m := h.later rfl
theorem Kept.drew {g : Nat} {A : Option Addr} {w w' : World} (h : Kept g A w w') : Kept g A w w'.drew := ⟨h.os, h.tape, h.output, h.size, h.block⟩

/-- What Take does. -/
def TakePost (g : Nat) (A : Option Addr) (L : List Msg) (s l : Nat) (i : Int) (w : World) (e : Ending) (w' : World) : Prop :=
  (∃ m, 0 ≤ i ∧ L[i.toNat]? = some m ∧ ∃ g1 c1 A' cap', e = .returned (.tuple #[.agg #[.int .i64 (m.frm : Int), .int .i64 (m.to : Int), .slice (some ⟨g1, 0, none⟩) 2 c1], .int .i64 0]) ∧ Byt w' g1 m ∧ Bag w' g A' cap' (off L i.toNat) s l ∧ Kept g A w w' ∧ Fresh A A' w) ∨
  ((i < 0 ∨ (L.length : Int) ≤ i) ∧ e = .returned (.tuple #[.agg #[.int .i64 0, .int .i64 0, .slice none 0 0], .int .i64 9]) ∧ Below w.heap.size w w')

set_option maxHeartbeats 1000000 in
theorem take9 {w : World} {g : Nat} {A : Option Addr} {cap : Nat} {L : List Msg} {s l : Nat} (h : Bag w g A cap L s l) (i : Int) (hL : L.length ≤ 100) :
    Calls Try.prog 9 #[.pointer (some ⟨g, 0, none⟩), .int .i64 i] w (TakePost g A L s l i w) := by
  obtain ⟨ti, hi, he⟩ : ∃ i, Try.prog.info? 36 = some i ∧ (i.zero, i.size, i.bytes) = (some (.agg #[.int .i64 0, .int .i64 0, .slice none 0 0]), 3, 40) := by
    have := Try.info36
    rw [Option.map_eq_some_iff] at this
    exact this
  simp only [Prod.mk.injEq] at he
  obtain ⟨hz, hsz, hby⟩ := he
  have Hi := Lib.hid hi
  have Hz := Lib.hid hz
  have Hs := Lib.hid hsz
  have Hb := Lib.hid hby
  clear hi hz hsz hby
  have H := Lib.hid h
  have HL := Lib.hid hL
  clear h hL
  go_enter Try.func9, Try.ntmps9
  go_wp2_with fail
  obtain ⟨w0, hw0⟩ : ∃ w0, w0 = w.alloc (Obj.cells #[Value.int IntKind.i64 0, Value.int IntKind.i64 0, Value.slice none 0 0] 36) := ⟨_, rfl⟩
  rw [← hw0]
  have hs0 : w0.heap.size = w.heap.size + 1 := by rw [hw0]; simp
  have hb0 : Below w.heap.size w w0 := by rw [hw0]; exact (Below.refl _ w).alloc (Nat.le_refl _) _
  have b2 : w0.heap[w.heap.size]? = some (.cells #[Value.int IntKind.i64 0, Value.int IntKind.i64 0, Value.slice none 0 0] 36 (0, 0)) := by rw [hw0]; exact heap_alloc_new w _
  have Hs0 := Lib.hid hs0
  have Hb0 := Lib.hid hb0
  have Hb2 := Lib.hid b2
  clear hw0 hs0 hb0 b2
  with_reducible refine (look21 (H.out.later Hb0.out) i).mono ?_
  rintro e w1 ⟨hb1, hcase⟩
  have hb01 := Hb0.out.trans (hb1.mono Hb0.out.size)
  have b3 : w1.heap[w.heap.size]? = some (.cells #[Value.int IntKind.i64 0, Value.int IntKind.i64 0, Value.slice none 0 0] 36 (0, 0)) := by
    rw [hb1.block _ (by rw [Hs0.out]; omega)]; exact Hb2.out
  have r0 := cell_of_row w1 _ 0 _ _ _ b3
  have r1 := cell_of_row w1 _ 1 _ _ _ b3
  have r2 := cell_of_row w1 _ 2 _ _ _ b3
  have s0 := frozen_of_row w1 _ 0 _ _ b3
  have s1 := frozen_of_row w1 _ 1 _ _ b3
  have s2 := frozen_of_row w1 _ 2 _ _ b3
  simp only [List.getElem?_toArray, List.getElem?_cons_zero, List.getElem?_cons_succ] at r0 r1 r2
  have hlt1 : w.heap.size < w1.heap.size := by have := hb1.size; rw [Hs0.out] at this; omega
  have Hb01 := Lib.hid hb01
  have Hb3 := Lib.hid b3
  clear hb1 hb01 b3
  rcases hcase with ⟨m, hi0, hm, g1, c1, rfl, hby1⟩ | ⟨hout, rfl⟩
  · obtain ⟨k, rfl⟩ : ∃ k : Nat, i = (k : Int) := ⟨i.toNat, by omega⟩
    obtain ⟨n, hn⟩ : ∃ n, n = L.length := ⟨_, rfl⟩
    simp only [Int.toNat_natCast] at hm
    have hk : k < n := by
      rcases Nat.lt_or_ge k L.length with h | h
      · omega
      · rw [List.getElem?_eq_none h] at hm; cases hm
    have hbag1 := H.out.later Hb01.out
    obtain ⟨xs, hrow, hms⟩ := hbag1.has
    rw [← hn] at hrow
    obtain ⟨gN, hA⟩ := hrow.some (by omega)
    have hnc : n ≤ cap ∧ cap ≤ maxLen := by
      obtain ⟨_, ⟨_, e, _⟩ | ⟨_, _, _, _, e1, e2, _⟩⟩ := hrow
      · omega
      · exact ⟨e1, e2⟩
    obtain ⟨q0, q1, q2, q3, q4⟩ := hbag1.cells
    have q4' := q4 1
    rw [← hn] at q1
    have hlg : g < w1.heap.size := hbag1.lt
    subst hA
    have Hn := Lib.hid hn
    have Hm := Lib.hid hm
    have Hrow := Lib.hid hrow
    have Hms := Lib.hid hms
    have Hbag1 := Lib.hid hbag1
    have Hnc := Lib.hid hnc.2
    have hnc1 := hnc.1
    have Hby1 := Lib.hid hby1
    clear hn hm hrow hms hbag1 hnc hby1 q0 q2 q3 q4
    unfold env
    go_wp2_with fail
    obtain ⟨w2, hw2⟩ : ∃ w2, w2 = w1.alloc (Obj.cells #[.int .i64 (m.frm : Int), .int .i64 (m.to : Int), .slice (some ⟨g1, 0, none⟩) 2 c1] 36) := ⟨_, rfl⟩
    rw [← hw2]
    have hb2 : Below w1.heap.size w1 w2 := by rw [hw2]; exact (Below.refl _ w1).alloc (Nat.le_refl _) _
    have b4 : w2.heap[w1.heap.size]? = some (.cells #[.int .i64 (m.frm : Int), .int .i64 (m.to : Int), .slice (some ⟨g1, 0, none⟩) 2 c1] 36 (0, 0)) := by rw [hw2]; exact heap_alloc_new w1 _
    have hs2 : w2.heap.size = w1.heap.size + 1 := by rw [hw2]; simp
    have q1' := cell_later hb2 q1
    have q4'' : w2.frozen? ⟨g, 1, none⟩ = false := by rw [hb2.frozen hlg]; exact q4'
    clear hw2 q1 q4'
    have Hb2' := Lib.hid hb2
    have Hb4 := Lib.hid b4
    have Hs2 := Lib.hid hs2
    clear hb2 b4 hs2
    have hkc : k ≤ cap := by omega
    have hkn : k + 1 ≤ n := hk
    have hw : IntKind.i64.wrap ((k : Int) + 1) = ((k + 1 : Nat) : Int) := by
      have h1 := HL.out; have h2 := Hn.out
      rw [IntKind.wrap_i64]; omega
    have hi0' : (0 : Int) ≤ (k : Int) + 1 ∧ (k : Int) + 1 ≤ (n : Int) := by omega
    have hrc := Lib.hid (Hrow.out.cut rfl k k (Nat.le_refl _) hkc (by omega))
    have hne := Lib.hid Hbag1.out.ne
    by_cases hc : cap = k + 1
    · have hnk : n = k + 1 := by omega
      subst hc
      subst hnk
      have hkk : (k : Int) ≤ (k : Int) + 1 := by omega
      go_region_law (fail)
      all_goals
        have hw12 : Below w.heap.size w w2 := Hb01.out.trans (Hb2'.out.mono Hb01.out.size)
        have hg2 : w2.heap[g]? = some (.cells #[.bool true, .slice (some ⟨gN, 0, none⟩) L.length (k + 1), .int .i64 s, .int .i64 l] 58 (0, 0)) := by
          obtain ⟨cs, e1, rfl⟩ := H.out.is
          rw [hw12.block g H.out.lt]; exact e1
        have hhas : Has w2 (some ⟨gN, 0, none⟩) k (off L k) := by
          have hoff := Hms.out.off (k := k) (by rw [← Hn.out]; omega)
          have hnil : xs.drop ((k + 1) * 3) = [] := List.drop_eq_nil_of_le (by rw [Hrow.out.1]; omega)
          rw [hnil, List.append_nil] at hoff
          have hlen : (off L k).length = k := by unfold off; have := Hn.out; simp; omega
          exact ⟨_, by rw [hlen]; exact hrc.out.below Hb2'.out, hoff.same (Below.same5 Hb2'.out)⟩
        have hlen : (off L k).length = k := by unfold off; have := Hn.out; simp; omega
        have hzb := bag_notes hg2 hhas
        rw [hlen] at hzb
        have hzk : Kept g (some ⟨gN, 0, none⟩) w (w2.setCell ⟨g, 1, none⟩ (.slice (some ⟨gN, 0, none⟩) k k)) := (Kept.of_below hw12).set 1 _
        have hgw := H.out.lt
        have hz1 : (w2.setCell ⟨g, 1, none⟩ (.slice (some ⟨gN, 0, none⟩) k k)).heap[w.heap.size]? = some (.cells #[.int .i64 0, .int .i64 0, .slice none 0 0] 36 (0, 0)) := by
          rw [heap_setCell_other _ _ _ _ (by show w.heap.size ≠ g; omega), Hb2'.out.block _ hlt1]; exact Hb3.out
        have hz2 : (w2.setCell ⟨g, 1, none⟩ (.slice (some ⟨gN, 0, none⟩) k k)).heap[w1.heap.size]? = some (.cells #[.int .i64 (m.frm : Int), .int .i64 (m.to : Int), .slice (some ⟨g1, 0, none⟩) 2 c1] 36 (0, 0)) := by
          rw [heap_setCell_other _ _ _ _ (by show w1.heap.size ≠ g; omega)]; exact Hb4.out
        have hzy : Byt (w2.setCell ⟨g, 1, none⟩ (.slice (some ⟨gN, 0, none⟩) k k)) g1 m := (Hby1.out.same (Below.same5 Hb2'.out)).same (same5_set58 hg2 _ _)
        have hzn : some w.heap.size ≠ blk (some ⟨gN, 0, none⟩) := by intro e; have := H.out.has.lt _ e.symm; omega
        have hzf : Fresh (some ⟨gN, 0, none⟩) (some ⟨gN, 0, none⟩) w := .inl rfl
        obtain ⟨wz, hwz⟩ : ∃ wz, wz = (w2.setCell ⟨g, 1, none⟩ (.slice (some ⟨gN, 0, none⟩) k k)).drew := ⟨_, rfl⟩
        replace hzb := hzb.drew
        replace hzk := hzk.drew
        replace hzy := hzy.drew
        replace hz1 : wz.heap[w.heap.size]? = some (.cells #[.int .i64 0, .int .i64 0, .slice none 0 0] 36 (0, 0)) := by rw [hwz]; exact hz1
        replace hz2 : wz.heap[w1.heap.size]? = some (.cells #[.int .i64 (m.frm : Int), .int .i64 (m.to : Int), .slice (some ⟨g1, 0, none⟩) 2 c1] 36 (0, 0)) := by rw [hwz]; exact hz2
        rw [← hwz] at hzb hzk hzy ⊢
        clear hwz hhas hlen hw12

        have p0 := cell_of_row wz _ 0 _ _ _ hz2
        have p1 := cell_of_row wz _ 1 _ _ _ hz2
        have p2 := cell_of_row wz _ 2 _ _ _ hz2
        have r0 := cell_of_row wz _ 0 _ _ _ hz1
        have r1 := cell_of_row wz _ 1 _ _ _ hz1
        have r2 := cell_of_row wz _ 2 _ _ _ hz1
        have s0 := frozen_of_row wz _ 0 _ _ hz1
        have s1 := frozen_of_row wz _ 1 _ _ hz1
        have s2 := frozen_of_row wz _ 2 _ _ hz1
        simp only [List.getElem?_toArray, List.getElem?_cons_zero, List.getElem?_cons_succ] at p0 p1 p2 r0 r1 r2
        have Hall := Lib.hid (three_sets (w := w) (m := m) hzb hzk hzy hz1 (Nat.le_refl _) hzn (.int .i64 (m.frm : Int)) (.int .i64 (m.to : Int)) (.slice (some ⟨g1, 0, none⟩) 2 c1))
        have Hzf := Lib.hid hzf
        clear hz1 hz2 hzb hzk hzy hzn hzf q4'' q1'
        go_wp2_with fail
        refine bodyPost_ret (v := .tuple #[.agg #[.int .i64 (m.frm : Int), .int .i64 (m.to : Int), .slice (some ⟨g1, 0, none⟩) 2 c1], .int .i64 0]) (by simp [results, Try.results9, go_sem, *]) rfl ?_
        exact .inl ⟨m, by omega, by simpa using Hm.out, g1, c1, _, _, rfl, Hall.out.2.2, by simpa using Hall.out.1, Hall.out.2.1, Hzf.out⟩
    · go_region_law (refine step_append_row _ (by rfl) _ _ _ (by rfl) 36 ti _ 3 40 Try.underlying32 Hi.out Hz.out Hs.out Hb.out rfl (by omega) (some ⟨gN, 0, none⟩) k k (xs.take (k * 3)) (by rfl) (hrc.out.below Hb2'.out.drew) ⟨gN, (k + 1) * 3, none⟩ (n - (k + 1)) (cap - (k + 1)) (xs.drop ((k + 1) * 3)) (by rfl) (by rw [List.length_drop, Hrow.out.1]; omega) (by intro j u hj; rw [List.getElem?_drop] at hj; rw [Addr.add_lit]; exact cell_later Hb2'.out.drew (Hrow.out.cell rfl _ _ hj)) (by intro u hu; exact Hms.out.one u (List.mem_of_mem_drop hu)) (by have h1 := HL.out; have h2 := Hn.out; unfold maxLen; omega) (by have h1 := HL.out; have h2 := Hn.out; omega) ?_; rintro A' cap' w3 hrow3 hgr3 hfr3; have e1 := hgr3.cell (a := ⟨g, 1, none⟩) (show w2.drew.cell? ⟨g, 1, none⟩ = _ from q1') hne.out; have e2 := (hgr3.frozen_far ⟨g, 1, none⟩ (Nat.lt_of_lt_of_le hlg Hb2'.out.size) hne.out).trans q4'')
      all_goals
        have hw12 : Below w.heap.size w w2 := Hb01.out.trans (Hb2'.out.mono Hb01.out.size)
        have hlen : (off L k).length = k + (n - (k + 1)) := by unfold off; have := Hn.out; simp; omega
        have hg3 : w3.heap[g]? = some (.cells #[.bool true, .slice (some ⟨gN, 0, none⟩) L.length cap, .int .i64 s, .int .i64 l] 58 (0, 0)) := by
          obtain ⟨cs, e1, rfl⟩ := H.out.is
          rw [hgr3.block g (Nat.lt_of_lt_of_le hlg Hb2'.out.size) hne.out]
          show w2.heap[g]? = _
          rw [hw12.block g H.out.lt]; exact e1
        have h5 : Same5 w1 w3 := by
          intro k cs hk
          have hkl : k < w1.heap.size := (Array.getElem?_eq_some_iff.1 hk).1
          rw [hgr3.block k (Nat.lt_of_lt_of_le hkl Hb2'.out.size) (by intro e; obtain ⟨c', e2⟩ := Hbag1.out.has.is36 k e.symm; rw [hk] at e2; simp at e2)]
          show w2.heap[k]? = _
          rw [Hb2'.out.block k hkl]; exact hk
        have hhas : Has w3 A' cap' (off L k) := ⟨_, by rw [hlen]; exact hrow3, (Hms.out.off (k := k) (by rw [← Hn.out]; omega)).same h5⟩
        have hzb := bag_notes hg3 hhas
        rw [hlen] at hzb
        have hgw := H.out.lt
        have hAw : ∀ k, blk (some ⟨gN, 0, none⟩) = some k → k < w.heap.size := H.out.has.lt
        have hgNw : gN < w.heap.size := hAw gN rfl
        have hk3 : Kept g (some ⟨gN, 0, none⟩) w w3 := ⟨hgr3.os.trans hw12.os, hgr3.tape.trans hw12.tape, hgr3.output.trans hw12.output, Nat.le_trans hw12.size hgr3.size, fun k e1 _ e3 => by
          rw [hgr3.block k (Nat.lt_of_lt_of_le e1 hw12.size) e3]; exact hw12.block k e1⟩
        have hzk := hk3.set 1 (.slice A' (k + (n - (k + 1))) cap')
        have hz1 : (w3.setCell ⟨g, 1, none⟩ (.slice A' (k + (n - (k + 1))) cap')).heap[w.heap.size]? = some (.cells #[.int .i64 0, .int .i64 0, .slice none 0 0] 36 (0, 0)) := by
          rw [heap_setCell_other _ _ _ _ (by show w.heap.size ≠ g; omega), hgr3.block _ (Nat.lt_of_lt_of_le hlt1 Hb2'.out.size) (by simp [blk]; omega)]
          show w2.heap[_]? = _
          rw [Hb2'.out.block _ hlt1]; exact Hb3.out
        have hz2 : (w3.setCell ⟨g, 1, none⟩ (.slice A' (k + (n - (k + 1))) cap')).heap[w1.heap.size]? = some (.cells #[.int .i64 (m.frm : Int), .int .i64 (m.to : Int), .slice (some ⟨g1, 0, none⟩) 2 c1] 36 (0, 0)) := by
          rw [heap_setCell_other _ _ _ _ (by show w1.heap.size ≠ g; omega), hgr3.block _ (by show _ < w2.heap.size; rw [Hs2.out]; omega) (by simp [blk]; omega)]
          exact Hb4.out
        have hzy : Byt (w3.setCell ⟨g, 1, none⟩ (.slice A' (k + (n - (k + 1))) cap')) g1 m := (Hby1.out.same h5).same (same5_set58 hg3 _ _)
        have hzn : some w.heap.size ≠ blk A' := by
          rcases hfr3 with e | e
          · rw [e]; intro e2; have := hAw _ e2.symm; omega
          · intro e2; have e3 := e _ e2.symm; have e4 : w2.drew.heap.size = w2.heap.size := rfl; have := Hs2.out; omega
        have hzf : Fresh (some ⟨gN, 0, none⟩) A' w := by
          rcases hfr3 with e | e
          · exact .inl e
          · refine .inr fun k hk => ?_
            have e3 := e k hk
            have e4 : w2.drew.heap.size = w2.heap.size := rfl
            have := Hs2.out
            omega
        obtain ⟨wz, hwz⟩ : ∃ wz, wz = w3.setCell ⟨g, 1, none⟩ (.slice A' (k + (n - (k + 1))) cap') := ⟨_, rfl⟩
        rw [← hwz] at hzb hzk hzy hz1 hz2 ⊢
        clear hwz hhas hk3 hw12 h5 hrow3 hgr3 hfr3 e1 e2 hg3

        have p0 := cell_of_row wz _ 0 _ _ _ hz2
        have p1 := cell_of_row wz _ 1 _ _ _ hz2
        have p2 := cell_of_row wz _ 2 _ _ _ hz2
        have r0 := cell_of_row wz _ 0 _ _ _ hz1
        have r1 := cell_of_row wz _ 1 _ _ _ hz1
        have r2 := cell_of_row wz _ 2 _ _ _ hz1
        have s0 := frozen_of_row wz _ 0 _ _ hz1
        have s1 := frozen_of_row wz _ 1 _ _ hz1
        have s2 := frozen_of_row wz _ 2 _ _ hz1
        simp only [List.getElem?_toArray, List.getElem?_cons_zero, List.getElem?_cons_succ] at p0 p1 p2 r0 r1 r2
        have Hall := Lib.hid (three_sets (w := w) (m := m) hzb hzk hzy hz1 (Nat.le_refl _) hzn (.int .i64 (m.frm : Int)) (.int .i64 (m.to : Int)) (.slice (some ⟨g1, 0, none⟩) 2 c1))
        have Hzf := Lib.hid hzf
        clear hz1 hz2 hzb hzk hzy hzn hzf q4'' q1'
        go_wp2_with fail
        refine bodyPost_ret (v := .tuple #[.agg #[.int .i64 (m.frm : Int), .int .i64 (m.to : Int), .slice (some ⟨g1, 0, none⟩) 2 c1], .int .i64 0]) (by simp [results, Try.results9, go_sem, *]) rfl ?_
        exact .inl ⟨m, by omega, by simpa using Hm.out, g1, c1, _, _, rfl, Hall.out.2.2, by simpa using Hall.out.1, Hall.out.2.1, Hzf.out⟩
  · go_wp2_with fail
    refine bodyPost_ret (v := .tuple #[.agg #[.int .i64 0, .int .i64 0, .slice none 0 0], .int .i64 9]) (by simp [results, Try.results9, go_sem, *]) rfl ?_
    exact .inr ⟨hout, rfl, (((Hb01.out.setCell (by simp) _).setCell (by simp) _).setCell (by simp) _).alloc (by simpa using Hb01.out.size) _⟩
end Go.Proofs.Ytbegeijofpgliab
