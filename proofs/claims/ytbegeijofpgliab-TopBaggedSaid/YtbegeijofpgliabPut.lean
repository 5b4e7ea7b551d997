/-
  The walk of Put.
-/
import Derived.Test.YtbegeijofpgliabBagB
import Derived.Deep.RegionLaw
namespace Go.Proofs.Ytbegeijofpgliab
open Go.RowKit

def Fresh (A A' : Option Addr) (w : World) : Prop := blk A' = blk A ∨ ∀ k, blk A' = some k → w.heap.size ≤ k

/-- What Put does. -/
def PutPost (g : Nat) (A : Option Addr) (L : List Msg) (s l : Nat) (m : Msg) (w : World) (e : Ending) (w' : World) : Prop :=
  (named m.frm = true ∧ named m.to = true ∧ e = .returned (.int .i64 0) ∧ ∃ A' cap', Bag w' g A' cap' (L ++ [m]) (s + 1) l ∧ Kept g A w w' ∧ Fresh A A' w) ∨
  ((named m.frm = false ∨ named m.to = false) ∧ e = .returned (.int .i64 2) ∧ Below w.heap.size w w')

theorem Row.below {w w' : World} {e : TypeId} {size : Nat} {A : Option Addr} {n cap : Nat} {xs : List Value} (h : Row w e size A n cap xs) (hb : Below w.heap.size w w') : Row w' e size A n cap xs :=
  h.later fun k hk => hb.block k (h.lt k hk)

theorem own24u {w : World} {g : Nat} {m : Msg} (c : Nat) (h : Byt w g m) : Calls Try.prog 24 #[.agg #[.int .i64 (m.frm : Int), .int .i64 (m.to : Int), .slice (some ⟨g, 0, none⟩) 2 c]] w fun e w' =>
    Below w.heap.size w w' ∧ ∃ g' c', e = .returned (.agg #[.int .i64 (m.frm : Int), .int .i64 (m.to : Int), .slice (some ⟨g', 0, none⟩) 2 c']) ∧ Byt w' g' m := own24 c h

theorem Bag.ne {w : World} {g : Nat} {A : Option Addr} {cap : Nat} {L : List Msg} {s l : Nat} (h : Bag w g A cap L s l) : some g ≠ blk A := by
  intro e
  obtain ⟨cs, h1, _⟩ := h.is
  obtain ⟨c', h2⟩ := h.has.is36 g e.symm
  rw [h1] at h2
  simp at h2

/-- The cell of a bag behind calls that leave it, and an append. -/
theorem grown_cell {w w' w'' : World} {B : Nat} {o : Obj} {row : Option Nat} (hb : Below B w w') (hg : (w'.alloc o).grownBy w'' row) (hB : B = w.heap.size) {a : Addr} {v : Value} (h : w.cell? a = some v) (hf : w.frozen? a = false) (hne : some a.block ≠ row) : w''.cell? a = some v ∧ w''.frozen? a = false := by
  subst hB
  have hlt : a.block < w.heap.size := World.block_lt_of_cell? w a h
  have hlt' : a.block < w'.heap.size := Nat.lt_of_lt_of_le hlt hb.size
  have e : w''.heap[a.block]? = w.heap[a.block]? := by
    rw [hg.block _ (by simp; omega) hne, Below.heap_alloc _ _ _ hlt', hb.block _ hlt]
  exact ⟨by rw [World.cell?_of_block e]; exact h, by rw [World.frozen?_of_block e]; exact hf⟩

theorem Msgs.snoc {w : World} {xs : List Value} {L : List Msg} {m : Msg} {g c : Nat} (h : Msgs w xs L) (hb : Byt w g m) : Msgs w (xs ++ [.int .i64 (m.frm : Int), .int .i64 (m.to : Int), .slice (some ⟨g, 0, none⟩) 2 c]) (L ++ [m]) := by
  obtain ⟨h1, h2⟩ := h
  refine ⟨by simp; omega, fun k m' hk => ?_⟩
  rcases Nat.lt_trichotomy k L.length with h3 | h3 | h3
  · rw [List.getElem?_append_left h3] at hk
    obtain ⟨g', c', a1, a2, a3, a4⟩ := h2 k m' hk
    exact ⟨g', c', by rw [List.getElem?_append_left (by omega)]; exact a1, by rw [List.getElem?_append_left (by omega)]; exact a2, by rw [List.getElem?_append_left (by omega)]; exact a3, a4⟩
  · subst h3
    simp at hk
    subst hk
    refine ⟨g, c, ?_, ?_, ?_, hb⟩
    · rw [List.getElem?_append_right (by omega), h1, Nat.sub_self]; rfl
    · rw [List.getElem?_append_right (by omega), h1, Nat.add_sub_cancel_left]; rfl
    · rw [List.getElem?_append_right (by omega), h1, Nat.add_sub_cancel_left]; rfl
  · rw [List.getElem?_eq_none (by simp; omega)] at hk
    cases hk

/-- Storing into a bag's own block: what bytes there are stays. -/
theorem same5_set58 {w : World} {g : Nat} {cs : Array Value} (h : w.heap[g]? = some (.cells cs 58 (0, 0))) (i : Nat) (v : Value) : Same5 w (w.setCell ⟨g, i, none⟩ v) := by
  intro k c hk
  rw [heap_setCell_other _ _ _ _ (by rintro rfl; rw [h] at hk; simp at hk)]
  exact hk

theorem has_set58 {w : World} {g : Nat} {cs : Array Value} (h : w.heap[g]? = some (.cells cs 58 (0, 0))) (i : Nat) (v : Value) {A : Option Addr} {cap : Nat} {L : List Msg} (hh : Has w A cap L) : Has (w.setCell ⟨g, i, none⟩ v) A cap L := by
  refine hh.later (fun k hk => ?_) (same5_set58 h i v)
  obtain ⟨c, h2⟩ := hh.is36 k hk
  exact heap_setCell_other _ _ _ _ (by rintro rfl; rw [h] at h2; simp at h2)

theorem bag_put {w : World} {g : Nat} {A : Option Addr} {cap : Nat} {L : List Msg} {v : Value} {s l s' : Nat} (h : w.heap[g]? = some (.cells #[.bool true, v, .int .i64 s, .int .i64 l] 58 (0, 0))) (hh : Has w A cap L) :
    Bag ((w.setCell ⟨g, 1, none⟩ (.slice A L.length cap)).setCell ⟨g, 2, none⟩ (.int .i64 s')) g A cap L s' l := by
  have h1 := heap_setCell_same w g 1 _ _ (.slice A L.length cap) h
  have h2 := heap_setCell_same _ g 2 _ _ (.int .i64 s') h1
  exact ⟨⟨_, h2, by simp⟩, has_set58 h1 _ _ (has_set58 h _ _ hh)⟩

theorem Kept.set {g : Nat} {A : Option Addr} {w w' : World} (h : Kept g A w w') (i : Nat) (v : Value) : Kept g A w (w'.setCell ⟨g, i, none⟩ v) :=
  ⟨h.os, h.tape, h.output, by simpa using h.size, fun k h1 h2 h3 => by rw [heap_setCell_other _ _ _ _ h2]; exact h.block k h1 h2 h3⟩

set_option maxHeartbeats 1000000 in
theorem put8 {w : World} {g : Nat} {A : Option Addr} {cap : Nat} {L : List Msg} {s l : Nat} (h : Bag w g A cap L s l) {m : Msg} {g1 : Nat} (c1 : Nat) (hm : Byt w g1 m) (hL : L.length ≤ 100) (hs : s ≤ 100) :
    Calls Try.prog 8 #[.pointer (some ⟨g, 0, none⟩), env m g1 c1] w (PutPost g A L s l m w) := by
  obtain ⟨i, hi, he⟩ : ∃ i, Try.prog.info? 36 = some i ∧ (i.zero, i.size, i.bytes) = (some (.agg #[.int .i64 0, .int .i64 0, .slice none 0 0]), 3, 40) := by
    have := Try.info36
    rw [Option.map_eq_some_iff] at this
    exact this
  simp only [Prod.mk.injEq] at he
  obtain ⟨hz, hsz, hby⟩ := he
  have Hi := Lib.hid hi
  have Hz := Lib.hid hz
  have Hs := Lib.hid hsz
  have Hb := Lib.hid hby
  clear hi hz hsz hby
  obtain ⟨n, hn⟩ : ∃ n, n = L.length := ⟨_, rfl⟩
  have dn : decide ((n : Int) ≥ 4096) = false := by simp; omega
  have Hn := Lib.hid hn
  have HL := Lib.hid hL
  have Hsm := Lib.hid hs
  clear hn hL hs
  obtain ⟨w0, hw0⟩ : ∃ w0, w0 = w.alloc (Obj.cells #[Value.int IntKind.i64 m.frm, Value.int IntKind.i64 m.to, Value.slice (some ⟨g1, 0, none⟩) 2 c1] 36) := ⟨_, rfl⟩
  have hs0 : w0.heap.size = w.heap.size + 1 := by rw [hw0]; simp
  have hb0 : Below w.heap.size w w0 := by rw [hw0]; exact (Below.refl _ w).alloc (Nat.le_refl _) _
  have b2 : w0.heap[w.heap.size]? = some (.cells #[Value.int IntKind.i64 m.frm, Value.int IntKind.i64 m.to, Value.slice (some ⟨g1, 0, none⟩) 2 c1] 36 (0, 0)) := by rw [hw0]; exact heap_alloc_new w _
  have Hw0 := Lib.hid hw0
  clear hw0
  have h0' := h.later hb0
  obtain ⟨h1, h2, h3, h4, h5⟩ := h0'.cells
  have hf2 := h5 1
  have Hne := Lib.hid h0'.ne
  have r0 := cell_of_row w0 _ 0 _ _ _ b2
  have r1 := cell_of_row w0 _ 1 _ _ _ b2
  have r2 := cell_of_row w0 _ 2 _ _ _ b2
  simp only [List.getElem?_toArray, List.getElem?_cons_zero, List.getElem?_cons_succ] at r0 r1 r2
  rw [← Hn.out] at h2
  have Hs0 := Lib.hid hs0
  have Hb0 := Lib.hid hb0
  have Hbag := Lib.hid h0'
  have Hb2 := Lib.hid b2
  have H := Lib.hid h
  have Hm := Lib.hid hm
  clear h h0' hs0 hb0 b2 h1 h3 h4 h5 hm
  have hc0 := named23 m.frm w0
  have hc1 := named23 m.to w0
  unfold env
  rcases hnf : named m.frm with _ | _
  · rw [hnf] at hc0
    have Hc0 := Lib.hid hc0
    have Hc1 := Lib.hid hc1
    have Hnf := Lib.hid hnf
    clear hc0 hc1 hnf
    go_enter Try.func8, Try.ntmps8
    go_wp2_with fail
    rw [← Hw0.out]
    with_reducible refine (none22 Hbag.out).mono ?_
    rintro e w1 ⟨rfl, rfl⟩
    go_wp2_with fail
    with_reducible refine Hc0.out.mono ?_
    rintro e w2 ⟨rfl, rfl⟩
    go_wp2_with fail
    go_ret
    exact .inr ⟨.inl Hnf.out, rfl, Hb0.out⟩
  · rcases hnt : named m.to with _ | _
    · rw [hnf] at hc0
      rw [hnt] at hc1
      have Hc0 := Lib.hid hc0
      have Hc1 := Lib.hid hc1
      have Hnt := Lib.hid hnt
      clear hc0 hc1 hnf hnt
      go_enter Try.func8, Try.ntmps8
      go_wp2_with fail
      rw [← Hw0.out]
      with_reducible refine (none22 Hbag.out).mono ?_
      rintro e w1 ⟨rfl, rfl⟩
      go_wp2_with fail
      with_reducible refine Hc0.out.mono ?_
      rintro e w2 ⟨rfl, rfl⟩
      go_wp2_with fail
      with_reducible refine Hc1.out.mono ?_
      rintro e w3 ⟨rfl, rfl⟩
      go_wp2_with fail
      go_ret
      exact .inr ⟨.inr Hnt.out, rfl, Hb0.out⟩
    · rw [hnf] at hc0
      rw [hnt] at hc1
      have Hc0 := Lib.hid hc0
      have Hc1 := Lib.hid hc1
      have Hnf := Lib.hid hnf
      have Hnt := Lib.hid hnt
      clear hc0 hc1 hnf hnt
      go_enter Try.func8, Try.ntmps8
      go_wp2_with fail
      rw [← Hw0.out]
      with_reducible refine (none22 Hbag.out).mono ?_
      rintro e w1 ⟨rfl, rfl⟩
      go_wp2_with fail
      with_reducible refine Hc0.out.mono ?_
      rintro e w2 ⟨rfl, rfl⟩
      go_wp2_with fail
      with_reducible refine Hc1.out.mono ?_
      rintro e w3 ⟨rfl, rfl⟩
      go_wp2_with fail
      obtain ⟨xs, hrow, hms⟩ := Hbag.out.has
      rw [← Hn.out] at hrow
      have Hrow := Lib.hid hrow
      have Hms := Lib.hid hms
      have Hby := Lib.hid (Hm.out.same (Below.same5 Hb0.out))
      clear hrow hms
      go_region_law (first | (go_simp; go_at_call 24; refine (own24u (w := w3.drew) c1 (Hby.out.later rfl)).mono ?_; rintro e w4 ⟨hb4, g', c', rfl, hby4⟩; have Hb4 := Lib.hid ((Below.refl w3.heap.size w3).drew.trans hb4); have Hby4 := Lib.hid hby4; have h2' := cell_later Hb4.out h2; have hlt4 : g < w4.heap.size := Nat.lt_of_lt_of_le Hbag.out.lt Hb4.out.size; clear hb4 hby4) | ((refine step_append_row _ (by rfl) _ _ _ (by rfl) 36 i _ 3 40 Try.underlying32 Hi.out Hz.out Hs.out Hb.out rfl (by omega) A n cap xs (by rfl) (Hrow.out.below ((Hb4.out).alloc Hb4.out.size _)) ⟨w4.heap.size, 0, none⟩ 1 1 [.int .i64 m.frm, .int .i64 m.to, .slice (some ⟨g', 0, none⟩) 2 c'] (by rfl) rfl (World.news_of_block (heap_alloc_new _ _)) (by intro u hu; simp at hu; rcases hu with rfl | rfl | rfl <;> rfl) (by have h1 := HL.out; have h2 := Hn.out; unfold maxLen; omega) (by have h1 := HL.out; have h2 := Hn.out; omega) ?_); rintro A' cap' w5 hrow5 hgr5 hfr5; obtain ⟨q1, q2⟩ := grown_cell Hb4.out hgr5 rfl h2 hf2 Hne.out))
      all_goals
        have hbw := Hb0.out.trans (Hb4.out.mono Hb0.out.size)
        have hk5 : Kept g A w w5 := ⟨hgr5.os.trans hbw.os, hgr5.tape.trans hbw.tape, hgr5.output.trans hbw.output, Nat.le_trans hbw.size (Nat.le_trans (by simp) hgr5.size), fun k e1 _ e3 => by
          rw [hgr5.block k (by have := hbw.size; simp; omega) e3, Below.heap_alloc _ _ _ (by have := hbw.size; omega), hbw.block k e1]⟩
        have hg5 : w5.heap[g]? = some (.cells #[.bool true, .slice A L.length cap, .int .i64 s, .int .i64 l] 58 (0, 0)) := by
          obtain ⟨cs, e1, rfl⟩ := H.out.is
          rw [hgr5.block g (by simp; omega) Hne.out, Below.heap_alloc _ _ _ hlt4, hbw.block g H.out.lt]; exact e1
        have h5 : Same5 w3 w5 := by
          intro k cs hk
          have hkl : k < w3.heap.size := (Array.getElem?_eq_some_iff.1 hk).1
          have := Hb4.out.size
          rw [hgr5.block k (by simp; omega) (by intro e; obtain ⟨c', e2⟩ := Hbag.out.has.is36 k e.symm; rw [hk] at e2; simp at e2), Below.heap_alloc _ _ _ (by omega), Hb4.out.block k hkl]
          exact hk
        have hby5 : Byt w5 g' m := by
          obtain ⟨cs, e1, e2⟩ := Hby4.out
          have hkl : g' < w4.heap.size := (Array.getElem?_eq_some_iff.1 e1).1
          have hne' : some g' ≠ blk A := by
            intro e
            obtain ⟨c', e3⟩ := Hbag.out.has.is36 g' e.symm
            have hkl3 : g' < w3.heap.size := (Array.getElem?_eq_some_iff.1 e3).1
            rw [Hb4.out.block g' hkl3] at e1
            rw [e1] at e3; simp at e3
          exact ⟨cs, by rw [hgr5.block g' (by simp; omega) hne', Below.heap_alloc _ _ _ hkl]; exact e1, e2⟩
        have hhas : Has w5 A' cap' (L ++ [m]) := ⟨_, by rw [List.length_append, ← Hn.out]; exact hrow5, (Hms.out.same h5).snoc hby5⟩
        have hfr : Fresh A A' w := by
          rcases hfr5 with e | e
          · exact .inl e
          · exact .inr fun k hk => by have e1 := e k hk; have e2 := hbw.size; simp at e1; omega
        have hbag := bag_put (s' := s + 1) hg5 hhas
        have hkk := (hk5.set 1 (.slice A' (L ++ [m]).length cap')).set 2 (.int .i64 ((s + 1 : Nat) : Int))
        have hlen : (L ++ [m]).length = n + 1 := by rw [List.length_append, ← Hn.out]; rfl
        rw [hlen] at hbag hkk
        have hc2 : (w5.setCell ⟨g, 1, none⟩ (.slice A' (n + 1) cap')).cell? ⟨g, 2, none⟩ = some (.int .i64 (s : Int)) ∧ (w5.setCell ⟨g, 1, none⟩ (.slice A' (n + 1) cap')).frozen? ⟨g, 2, none⟩ = false := by
          have e := heap_setCell_same w5 g 1 _ _ (.slice A' (n + 1) cap') hg5
          exact ⟨by rw [cell_of_row _ g 2 _ _ _ e]; simp, frozen_of_row _ g 2 _ _ e⟩
        have hadd := add25 hc2.1 hc2.2 (by have := Hsm.out; omega)
        have Hbag5 := Lib.hid hbag
        have Hkk := Lib.hid hkk
        have Hadd := Lib.hid hadd
        have Hfr := Lib.hid hfr
        clear hbw hk5 hg5 h5 hby5 hhas hfr hbag hkk hlen hc2 hadd hrow5 hgr5 hfr5 q1 q2 h2' hf2 h2 r0 r1 r2
        go_wp2_with fail
        with_reducible refine Hadd.out.mono ?_
        rintro e w6 ⟨rfl, rfl⟩
        go_wp2_with fail
        go_ret
        exact .inl ⟨Hnf.out, Hnt.out, rfl, A', cap', Hbag5.out, Hkk.out, Hfr.out⟩
end Go.Proofs.Ytbegeijofpgliab
