/-
  A note is cut out of the test's own list.
-/
import Derived.Test.YtbegeijofpgliabSw
namespace Go.Proofs.Ytbegeijofpgliab
open Go.RowKit Go.Maps

theorem grown_old {B : Nat} {w w1 w2 : World} {A : Option Addr} (hb : Below B w w1) (hg : w1.grownBy w2 (blk A)) (hA : ∀ k, blk A = some k → B ≤ k) (hB : B ≤ w.heap.size) : Below B w w2 :=
  ⟨hg.os.trans hb.os, hg.tape.trans hb.tape, hg.output.trans hb.output, Nat.le_trans hb.size hg.size, fun k hk => by
    rw [hg.block k (by have := hb.size; omega) (by intro e; have := hA k e.symm; omega)]; exact hb.block k hk⟩

section
variable {w0 w : World} {F : Four} {A1 A2 : Option Addr} {c1 c2 s l n a n2 : Nat} {L1 L2 : List Msg} {T1 T2 : List Tg}

/-- The test's own list lies elsewhere now. -/
theorem Inv.swap (h : Inv w0 F w A1 c1 L1 s l A2 c2 L2 n T1 a n2 T2) {w' : World} (hb : Below w.heap.size w w') {A2' : Option Addr} {c2' : Nat} {L2' : List Msg} (hh : Has w' A2' c2' L2') (hA : ∀ k, blk A2' = some k → w.heap.size ≤ k) :
    Inv w0 F w' A1 c1 L1 s l A2' c2' L2' n T1 a n2 T2 ∧ Turn F A1 A2 w A1 A2' w' := by
  have h' := h.later hb
  refine ⟨⟨h'.bag, hh, h'.led, h'.tags, h'.ne, fun k e1 e2 => ?_, h'.below, h'.hb, h'.ht, h'.hM, h'.hN, h'.h1, fun k e => ?_⟩, fun k hk => ⟨hb.block k hk.lt, Nat.lt_of_lt_of_le hk.lt hb.size, hk.b, hk.t, hk.M, hk.N, hk.A1, fun e => ?_⟩⟩
  · have := h.bag.has.lt k e1; have := hA k e2; omega
  · have := hA k e; have := h.below.size; omega
  · have := hA k e.symm; have := hk.lt; omega

/-- The two appends. -/
theorem Inv.cut (h : Inv w0 F w A1 c1 L1 s l A2 c2 L2 n T1 a n2 T2) (hl : L2.length ≤ 100) {j : Nat} (hj : j < L2.length) : ∃ gN xs, A2 = some ⟨gN, 0, none⟩ ∧ j + 1 ≤ c2 ∧ L2.length ≤ c2 ∧ c2 ≤ maxLen ∧ gN < w.heap.size ∧
    Row w 36 3 A2 L2.length c2 xs ∧ Msgs w xs L2 ∧ ∃ A' c' w1, (Builtin.append_ #[32, 32] 32 #[.slice (some ⟨w.heap.size, 0, none⟩) 0 0, .slice (some ⟨gN, 0, none⟩) j c2]).run Try.prog (w.alloc (.cells #[] 36)).drew = .ok (.slice A' j c') w1 ∧
      Row w1 36 3 A' j c' (xs.take (j * 3)) ∧ Below w.heap.size w w1 ∧ (∀ k, blk A' = some k → w.heap.size ≤ k) := by
  obtain ⟨i, hi, hz, hsz, hby⟩ := info36
  obtain ⟨xs, hrow, hms⟩ := h.all
  obtain ⟨gN, rfl⟩ := hrow.some (by omega)
  have hc : L2.length ≤ c2 ∧ c2 ≤ maxLen := by
    obtain ⟨_, ⟨_, e, _⟩ | ⟨_, _, _, _, e1, e2, _⟩⟩ := hrow
    · omega
    · exact ⟨e1, e2⟩
  have hone := hms.one
  have hxl := hrow.1
  obtain ⟨wa, ha⟩ : ∃ wa, wa = (w.alloc (.cells #[] 36)).drew := ⟨_, rfl⟩
  have hb : Below w.heap.size w wa := by rw [ha]; exact ((Below.refl _ w).alloc (Nat.le_refl _) _).drew
  have hn : wa.heap[w.heap.size]? = some (.cells #[] 36 (0, 0)) := by rw [ha]; exact heap_alloc_new w _
  have hra := hrow.below hb
  have hr0 : Row wa 36 3 (some ⟨w.heap.size, 0, none⟩) 0 0 [] := ⟨rfl, .inr ⟨_, #[], rfl, hn, Nat.le_refl _, Nat.zero_le _, by simp, by simp⟩⟩
  obtain ⟨A', c', w1, hr, hrow', hg, hf⟩ := run_append_row (P := Try.prog) wa 32 32 36 i _ 3 40 Try.underlying32 hi hz hsz hby rfl (by omega) (some ⟨w.heap.size, 0, none⟩) 0 0 [] hr0 ⟨gN, 0, none⟩ j c2 (xs.take (j * 3))
    (by rw [List.length_take]; omega) (fun q u hq => by
      rw [List.getElem?_take] at hq
      split at hq
      · rw [Addr.add_lit, Nat.zero_add]; exact hra.cell rfl q u hq
      · cases hq) (fun u hu => hone u (List.mem_of_mem_take hu)) (by unfold maxLen; omega) (by omega)
  simp only [Nat.zero_add, List.nil_append] at hr hrow'
  refine ⟨gN, xs, rfl, by omega, hc.1, hc.2, hrow.lt gN rfl, hrow, hms, A', c', w1, ?_, hrow', grown_old hb hg (fun k e => by simp [blk] at e; omega) (Nat.le_refl _), fun k e => ?_⟩
  · rw [← ha]; exact hr
  · rcases hf with e2 | e2
    · rw [e2] at e; simp [blk] at e; omega
    · have := e2 k e; have := hb.size; omega

theorem Inv.off (h : Inv w0 F w A1 c1 L1 s l A2 c2 L2 n T1 a n2 T2) (hl : L2.length ≤ 100) {j : Nat} (hj : j < L2.length) : ∃ gN, A2 = some ⟨gN, 0, none⟩ ∧ j + 1 ≤ c2 ∧ L2.length ≤ c2 ∧ c2 ≤ maxLen ∧
    ∃ A' c' w1 A'' c'' w2 m, (Builtin.append_ #[32, 32] 32 #[.slice (some ⟨w.heap.size, 0, none⟩) 0 0, .slice (some ⟨gN, 0, none⟩) j c2]).run Try.prog (w.alloc (.cells #[] 36)).drew = .ok (.slice A' j c') w1 ∧
      (c2 = j + 1 → (Builtin.append_ #[32, 32] 32 #[.slice A' j c', .slice (some ⟨gN, 0, none⟩) 0 0]).run Try.prog w1 = .ok (.slice A'' m c'') w2) ∧
      (c2 ≠ j + 1 → (Builtin.append_ #[32, 32] 32 #[.slice A' j c', .slice (some ⟨gN, (j + 1) * 3, none⟩) (L2.length - (j + 1)) (c2 - (j + 1))]).run Try.prog w1 = .ok (.slice A'' m c'') w2) ∧
      m = (Ytbegeijofpgliab.off L2 j).length ∧ Inv w0 F w2 A1 c1 L1 s l A'' c'' (Ytbegeijofpgliab.off L2 j) n T1 a n2 T2 ∧ Turn F A1 A2 w A1 A'' w2 := by
  obtain ⟨i, hi, hz, hsz, hby⟩ := info36
  obtain ⟨gN, xs, rfl, hj2, hlc, hc, hgl, hrow, hms, A', c', w1, hr, hrow1, hb1, hA'⟩ := h.cut hl hj
  have hone := hms.one
  have hxl := hrow.1
  have hoff := hms.off hj
  have hlen : (Ytbegeijofpgliab.off L2 j).length = j + (L2.length - (j + 1)) := by unfold Ytbegeijofpgliab.off; simp; omega
  have hra := hrow.below hb1
  have fin : ∀ {A'' : Option Addr} {c'' : Nat} {w2 : World}, Row w2 36 3 A'' (j + (L2.length - (j + 1))) c'' (xs.take (j * 3) ++ xs.drop ((j + 1) * 3)) → w1.grownBy w2 (blk A') → (blk A'' = blk A' ∨ ∀ k, blk A'' = some k → w1.heap.size ≤ k) →
      Inv w0 F w2 A1 c1 L1 s l A'' c'' (Ytbegeijofpgliab.off L2 j) n T1 a n2 T2 ∧ Turn F A1 (some ⟨gN, 0, none⟩) w A1 A'' w2 := by
    intro A'' c'' w2 hrow2 hg hf
    have hb2 := grown_old hb1 hg hA' (Nat.le_refl _)
    refine h.swap hb2 ⟨_, by rw [hlen]; exact hrow2, hoff.same (Below.same5 hb2)⟩ fun k e => ?_
    rcases hf with e2 | e2
    · rw [e2] at e; exact hA' k e
    · have := e2 k e; have := hb1.size; omega
  by_cases hcc : c2 = j + 1
  · have hd : xs.drop ((j + 1) * 3) = [] := List.drop_eq_nil_of_le (by omega)
    obtain ⟨A'', c'', w2, hr2, hrow2, hg, hf⟩ := run_append_row (P := Try.prog) w1 32 32 36 i _ 3 40 Try.underlying32 hi hz hsz hby rfl (by omega) A' j c' (xs.take (j * 3)) hrow1 ⟨gN, 0, none⟩ 0 0 [] rfl (fun q u hq => by simp at hq) (fun u hu => by simp at hu) (by unfold maxLen; omega) (by omega)
    have e0 : L2.length - (j + 1) = 0 := by omega
    obtain ⟨q1, q2⟩ := fin (A'' := A'') (c'' := c'') (w2 := w2) (by rw [e0, hd]; exact hrow2) hg hf
    exact ⟨gN, rfl, hj2, hlc, hc, A', c', w1, A'', c'', w2, j, hr, fun _ => hr2, fun e => absurd hcc e, by rw [hlen]; omega, q1, q2⟩
  · obtain ⟨A'', c'', w2, hr2, hrow2, hg, hf⟩ := run_append_row (P := Try.prog) w1 32 32 36 i _ 3 40 Try.underlying32 hi hz hsz hby rfl (by omega) A' j c' (xs.take (j * 3)) hrow1 ⟨gN, (j + 1) * 3, none⟩ (L2.length - (j + 1)) (c2 - (j + 1)) (xs.drop ((j + 1) * 3)) (by rw [List.length_drop]; omega)
      (fun q u hq => by rw [List.getElem?_drop] at hq; rw [Addr.add_lit]; exact hra.cell rfl _ u hq) (fun u hu => hone u (List.mem_of_mem_drop hu)) (by unfold maxLen; omega) (by omega)
    obtain ⟨q1, q2⟩ := fin (A'' := A'') (c'' := c'') (w2 := w2) hrow2 hg hf
    exact ⟨gN, rfl, hj2, hlc, hc, A', c', w1, A'', c'', w2, j + (L2.length - (j + 1)), hr, fun e => absurd e hcc, fun _ => hr2, hlen.symm, q1, q2⟩
end
end Go.Proofs.Ytbegeijofpgliab
