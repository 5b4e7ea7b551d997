/-
  The walk of Vector: two readers.
-/
import Derived.Test.YtbegeijofpgliabCheck
import Derived.LoopN
namespace Go.Proofs.Ytbegeijofpgliab
open Go.RowKit Go.Maps

/-- A tag that is stored. -/
theorem led_store {w : World} {g M n : Nat} {T : List Tg} {a : Nat} (h : Led w g M n T a) {x : Tg} (hx : x.Ok) (hn : n ≤ 2000) :
    ∃ wU, (Instr.mapUpdate 59 (.map (some M)) (.agg (.int .i64 (x.frm : Int) :: .int .i64 (x.to : Int) :: dig x.d).toArray) (.agg #[])).run Try.prog w.drew = .ok () wU ∧
      Led wU g M (n + 1) (ins T x) a ∧ KeptL g M w wU ∧ w.drew.grownBy wU (some M) := by
  obtain ⟨D, hD, hDs⟩ := h.has
  obtain ⟨wU, hmu, hU1, hU2⟩ := (hD.drew).update Try.law67 Try.underlying59 (by unfold maxLen; omega) (keyL hx) (unitElem_mk)
  have hput := led_put h hD hDs hx (a' := a) rfl hU1 hU2
  exact ⟨wU, hmu, hput.1, hput.2, hU2⟩

theorem Led.neD {w : World} {g M n : Nat} {T : List Tg} {a b d : Nat} (h : Led w g M n T a) (hd : DigAt w b d) : b ≠ M := by
  obtain ⟨D, hD, _⟩ := h.has
  intro e
  obtain ⟨es, c, e1, _⟩ := hD
  unfold DigAt at hd
  rw [e, e1] at hd
  simp at hd

theorem digAt_range {w : World} {b d : Nat} (h : DigAt w b d) {cs : List Value} (hcs : cs = dig d) : w.rangeAt b 0 cs := by
  intro j v hj
  rw [Nat.zero_add, cell_of_row w _ j _ _ _ h]
  rw [hcs] at hj
  simpa [digA] using hj

theorem KeptL.trans {g M : Nat} {w w' w'' : World} (h : KeptL g M w w') (h' : KeptL g M w' w'') : KeptL g M w w'' :=
  ⟨h'.os.trans h.os, h'.tape.trans h.tape, h'.output.trans h.output, Nat.le_trans h.size h'.size, fun k e1 e2 e3 => by rw [h'.block k (Nat.lt_of_lt_of_le e1 h.size) e2 e3]; exact h.block k e1 e2 e3⟩

set_option maxHeartbeats 1000000 in
theorem vector13_both {w : World} {g M n : Nat} {T : List Tg} {a : Nat} (h : Led w g M n T a) (x : Tg) (t2 : Nat) (hx : x.Ok) (hy : (⟨x.frm, t2, x.d⟩ : Tg).Ok) (hn : n ≤ 1500) (hnf : named x.frm = true) (hnt : named x.to = true) (hnr : named t2 = true)
    (br : Nat) (r0 : w.heap[br]? = some (.cells #[.int .i64 (x.to : Int), .int .i64 (t2 : Int)] 3 (0, 0))) :
    Calls Try.prog 13 #[.pointer (some ⟨g, 0, none⟩), .int .i64 (x.frm : Int), .slice (some ⟨br, 0, none⟩) 2 2, .agg (digA x.d)] w fun e w' => e = .returned (.int .i64 0) ∧ Led w' g M (n + 2) (ins (ins T x) ⟨x.frm, t2, x.d⟩) a ∧ KeptL g M w w' := by
  obtain ⟨V, hV⟩ : ∃ V, V = digA x.d := ⟨_, rfl⟩
  rw [← hV]
  obtain ⟨w0, hw0⟩ : ∃ w0, w0 = w.alloc (Obj.cells V 40) := ⟨_, rfl⟩
  have hb0 : Below w.heap.size w w0 := by rw [hw0]; exact (Below.refl _ w).alloc (Nat.le_refl _) _
  have hd0 : DigAt w0 w.heap.size x.d := by unfold DigAt; rw [hw0, ← hV]; exact heap_alloc_new w _
  have hl0 := h.later hb0
  have hr0 : w0.heap[br]? = some (.cells #[.int .i64 (x.to : Int), .int .i64 (t2 : Int)] 3 (0, 0)) := by
    rw [hb0.block br (Array.getElem?_eq_some_iff.1 r0).1]; exact r0
  have c0 := cell_of_row w0 br 0 _ _ _ hr0
  have c1 := cell_of_row w0 br 1 _ _ _ hr0
  simp only [List.getElem?_toArray, List.getElem?_cons_zero, List.getElem?_cons_succ] at c0 c1
  have hc0 := named27 x.frm w0
  have hc1 := named27 x.to w0
  have hc2 := named27 t2 w0
  rw [hnf] at hc0
  rw [hnt] at hc1
  rw [hnr] at hc2
  -- the two stores
  obtain ⟨cs, hcs⟩ : ∃ cs, cs = dig x.d := ⟨_, rfl⟩
  have hu := Try.underlying40
  have hi : (Try.prog.info? 40).map (fun i => i.size) = some cs.length := by rw [Try.size40, hcs]; rfl
  have hcl : cs.length = 32 := by rw [hcs]; rfl
  obtain ⟨wU, hmu, hlU, hkU, hgU⟩ := led_store hl0 hx (by omega)
  have hbM := hl0.neD hd0
  have hbl : w.heap.size < w0.heap.size := by rw [hw0]; simp
  have hdU : DigAt wU w.heap.size x.d := by
    unfold DigAt; rw [hgU.block _ hbl (by simpa using hbM)]; exact hd0
  have hbrl : br < w0.heap.size := (Array.getElem?_eq_some_iff.1 hr0).1
  have hbrM : br ≠ M := by
    obtain ⟨D, ⟨es, c, e1, _⟩, _⟩ := hl0.has
    intro e; rw [e, e1] at hr0; simp at hr0
  have hrU : wU.heap[br]? = some (.cells #[.int .i64 (x.to : Int), .int .i64 (t2 : Int)] 3 (0, 0)) := by
    rw [hgU.block br hbrl (by simpa using hbrM)]; exact hr0
  have d0 := cell_of_row wU br 0 _ _ _ hrU
  have d1 := cell_of_row wU br 1 _ _ _ hrU
  simp only [List.getElem?_toArray, List.getElem?_cons_zero, List.getElem?_cons_succ] at d0 d1
  obtain ⟨wV, hmv, hlV, hkV, hgV⟩ := led_store hlU hy (by omega)
  have hdV : DigAt wV w.heap.size x.d := by
    unfold DigAt; rw [hgV.block _ (Nat.lt_of_lt_of_le hbl hkU.size) (by simpa using hbM)]; exact hdU
  have hq0 := hl0.cells.1
  have hqU := hlU.cells.1
  have hqV := hlV.cells.1
  have g0 := digAt_range hd0 hcs
  have gU := digAt_range hdU hcs
  have gV := digAt_range hdV hcs
  rw [← tag_key x cs hcs] at hmu
  rw [← tag_key ⟨x.frm, t2, x.d⟩ cs hcs] at hmv
  have Hc0 := Lib.hid hc0
  have Hc1 := Lib.hid hc1
  have Hc2 := Lib.hid hc2
  have Hl0 := Lib.hid hl0
  have Hw0 := Lib.hid hw0
  have HlV := Lib.hid hlV
  have HkV := Lib.hid ((hkU.trans hkV).below hb0)
  clear h hx hy hn hnf hnt hnr r0 hV hw0 hb0 hd0 hl0 hr0 hc0 hc1 hc2 hcs hlU hkU hgU hbM hbl hdU hbrl hbrM hrU hlV hkV hgV hdV
  go_enter Try.func13, Try.ntmps13
  go_wp2_with fail
  rw [← Hw0.out]
  with_reducible refine (none26 Hl0.out).mono ?_
  rintro e w1 ⟨rfl, rfl⟩
  go_wp2_with fail
  with_reducible refine Hc0.out.mono ?_
  rintro e w2 ⟨rfl, rfl⟩
  go_wp2_with fail
  refine wp_loop_rounds 3 ?_
  rw [rounds_succ]
  go_wp2_with fail
  with_reducible refine Hc1.out.mono ?_
  rintro e w3 ⟨rfl, rfl⟩
  go_wp2_with fail
  rw [rounds_succ]
  go_wp2_with fail
  with_reducible refine Hc2.out.mono ?_
  rintro e w3 ⟨rfl, rfl⟩
  go_wp2_with fail
  rw [rounds_succ]
  go_wp2_with fail
  refine wp_loop_rounds 3 ?_
  rw [rounds_succ]
  go_wp2_with fail
  go_region_held3 (fun w' => w'.cell? ⟨g, 0, none⟩ = some (.map (some M)) ∧ w'.rangeAt w.heap.size 0 cs) (first | (exact ⟨hqU, gU⟩) | go_keep_ranges) (fail)
  all_goals
    clear hmu
    go_wp2_with fail
    rw [rounds_succ]
    go_wp2_with fail
    go_region_held3 (fun w' => w'.cell? ⟨g, 0, none⟩ = some (.map (some M)) ∧ w'.rangeAt w.heap.size 0 cs) (first | (exact ⟨hqV, gV⟩) | go_keep_ranges) (fail)
    all_goals
      clear hmv
      go_wp2_with fail
      rw [rounds_succ]
      go_wp2_with fail
      go_ret
      exact ⟨rfl, HlV.out, HkV.out⟩


set_option maxHeartbeats 1000000 in
theorem vector13_off {w : World} {g M n : Nat} {T : List Tg} {a : Nat} (h : Led w g M n T a) (x : Tg) (t2 : Nat) (hnf : named x.frm = false)
    (br : Nat) (r0 : w.heap[br]? = some (.cells #[.int .i64 (x.to : Int), .int .i64 (t2 : Int)] 3 (0, 0))) :
    Calls Try.prog 13 #[.pointer (some ⟨g, 0, none⟩), .int .i64 (x.frm : Int), .slice (some ⟨br, 0, none⟩) 2 2, .agg (digA x.d)] w fun e w' => e = .returned (.int .i64 2) ∧ Below w.heap.size w w' := by
  obtain ⟨V, hV⟩ : ∃ V, V = digA x.d := ⟨_, rfl⟩
  rw [← hV]
  obtain ⟨w0, hw0⟩ : ∃ w0, w0 = w.alloc (Obj.cells V 40) := ⟨_, rfl⟩
  have hb0 : Below w.heap.size w w0 := by rw [hw0]; exact (Below.refl _ w).alloc (Nat.le_refl _) _
  have hl0 := h.later hb0
  have hr0 : w0.heap[br]? = some (.cells #[.int .i64 (x.to : Int), .int .i64 (t2 : Int)] 3 (0, 0)) := by
    rw [hb0.block br (Array.getElem?_eq_some_iff.1 r0).1]; exact r0
  have c0 := cell_of_row w0 br 0 _ _ _ hr0
  have c1 := cell_of_row w0 br 1 _ _ _ hr0
  simp only [List.getElem?_toArray, List.getElem?_cons_zero, List.getElem?_cons_succ] at c0 c1
  have hc0 := named27 x.frm w0
  have hc1 := named27 x.to w0
  have hc2 := named27 t2 w0
  rw [hnf] at hc0
  have Hc0 := Lib.hid hc0
  have Hc1 := Lib.hid hc1
  have Hc2 := Lib.hid hc2
  have Hl0 := Lib.hid hl0
  have Hw0 := Lib.hid hw0
  have Hb0 := Lib.hid hb0
  clear h hV hw0 hb0 hl0 hr0 r0 hc0 hc1 hc2
  go_enter Try.func13, Try.ntmps13
  go_wp2_with fail
  rw [← Hw0.out]
  with_reducible refine (none26 Hl0.out).mono ?_
  rintro e w1 ⟨rfl, rfl⟩
  go_wp2_with fail
  with_reducible refine Hc0.out.mono ?_
  rintro e w2 ⟨rfl, rfl⟩
  go_wp2_with fail
  go_ret
  exact ⟨rfl, Hb0.out⟩

set_option maxHeartbeats 1000000 in
theorem vector13_far {w : World} {g M n : Nat} {T : List Tg} {a : Nat} (h : Led w g M n T a) (x : Tg) (t2 : Nat) (hnf : named x.frm = true) (hnt : named x.to = false)
    (br : Nat) (r0 : w.heap[br]? = some (.cells #[.int .i64 (x.to : Int), .int .i64 (t2 : Int)] 3 (0, 0))) :
    Calls Try.prog 13 #[.pointer (some ⟨g, 0, none⟩), .int .i64 (x.frm : Int), .slice (some ⟨br, 0, none⟩) 2 2, .agg (digA x.d)] w fun e w' => e = .returned (.int .i64 2) ∧ Below w.heap.size w w' := by
  obtain ⟨V, hV⟩ : ∃ V, V = digA x.d := ⟨_, rfl⟩
  rw [← hV]
  obtain ⟨w0, hw0⟩ : ∃ w0, w0 = w.alloc (Obj.cells V 40) := ⟨_, rfl⟩
  have hb0 : Below w.heap.size w w0 := by rw [hw0]; exact (Below.refl _ w).alloc (Nat.le_refl _) _
  have hl0 := h.later hb0
  have hr0 : w0.heap[br]? = some (.cells #[.int .i64 (x.to : Int), .int .i64 (t2 : Int)] 3 (0, 0)) := by
    rw [hb0.block br (Array.getElem?_eq_some_iff.1 r0).1]; exact r0
  have c0 := cell_of_row w0 br 0 _ _ _ hr0
  have c1 := cell_of_row w0 br 1 _ _ _ hr0
  simp only [List.getElem?_toArray, List.getElem?_cons_zero, List.getElem?_cons_succ] at c0 c1
  have hc0 := named27 x.frm w0
  have hc1 := named27 x.to w0
  have hc2 := named27 t2 w0
  rw [hnf] at hc0
  rw [hnt] at hc1
  have Hc0 := Lib.hid hc0
  have Hc1 := Lib.hid hc1
  have Hc2 := Lib.hid hc2
  have Hl0 := Lib.hid hl0
  have Hw0 := Lib.hid hw0
  have Hb0 := Lib.hid hb0
  clear h hV hw0 hb0 hl0 hr0 r0 hc0 hc1 hc2
  go_enter Try.func13, Try.ntmps13
  go_wp2_with fail
  rw [← Hw0.out]
  with_reducible refine (none26 Hl0.out).mono ?_
  rintro e w1 ⟨rfl, rfl⟩
  go_wp2_with fail
  with_reducible refine Hc0.out.mono ?_
  rintro e w2 ⟨rfl, rfl⟩
  go_wp2_with fail
  refine wp_loop_rounds 3 ?_
  rw [rounds_succ]
  go_wp2_with fail
  with_reducible refine Hc1.out.mono ?_
  rintro e w3 ⟨rfl, rfl⟩
  go_wp2_with fail
  go_ret
  exact ⟨rfl, Hb0.out⟩

set_option maxHeartbeats 1000000 in
theorem vector13_last {w : World} {g M n : Nat} {T : List Tg} {a : Nat} (h : Led w g M n T a) (x : Tg) (t2 : Nat) (hnf : named x.frm = true) (hnt : named x.to = true) (hnr : named t2 = false)
    (br : Nat) (r0 : w.heap[br]? = some (.cells #[.int .i64 (x.to : Int), .int .i64 (t2 : Int)] 3 (0, 0))) :
    Calls Try.prog 13 #[.pointer (some ⟨g, 0, none⟩), .int .i64 (x.frm : Int), .slice (some ⟨br, 0, none⟩) 2 2, .agg (digA x.d)] w fun e w' => e = .returned (.int .i64 2) ∧ Below w.heap.size w w' := by
  obtain ⟨V, hV⟩ : ∃ V, V = digA x.d := ⟨_, rfl⟩
  rw [← hV]
  obtain ⟨w0, hw0⟩ : ∃ w0, w0 = w.alloc (Obj.cells V 40) := ⟨_, rfl⟩
  have hb0 : Below w.heap.size w w0 := by rw [hw0]; exact (Below.refl _ w).alloc (Nat.le_refl _) _
  have hl0 := h.later hb0
  have hr0 : w0.heap[br]? = some (.cells #[.int .i64 (x.to : Int), .int .i64 (t2 : Int)] 3 (0, 0)) := by
    rw [hb0.block br (Array.getElem?_eq_some_iff.1 r0).1]; exact r0
  have c0 := cell_of_row w0 br 0 _ _ _ hr0
  have c1 := cell_of_row w0 br 1 _ _ _ hr0
  simp only [List.getElem?_toArray, List.getElem?_cons_zero, List.getElem?_cons_succ] at c0 c1
  have hc0 := named27 x.frm w0
  have hc1 := named27 x.to w0
  have hc2 := named27 t2 w0
  rw [hnf] at hc0
  rw [hnt] at hc1
  rw [hnr] at hc2
  have Hc0 := Lib.hid hc0
  have Hc1 := Lib.hid hc1
  have Hc2 := Lib.hid hc2
  have Hl0 := Lib.hid hl0
  have Hw0 := Lib.hid hw0
  have Hb0 := Lib.hid hb0
  clear h hV hw0 hb0 hl0 hr0 r0 hc0 hc1 hc2
  go_enter Try.func13, Try.ntmps13
  go_wp2_with fail
  rw [← Hw0.out]
  with_reducible refine (none26 Hl0.out).mono ?_
  rintro e w1 ⟨rfl, rfl⟩
  go_wp2_with fail
  with_reducible refine Hc0.out.mono ?_
  rintro e w2 ⟨rfl, rfl⟩
  go_wp2_with fail
  refine wp_loop_rounds 3 ?_
  rw [rounds_succ]
  go_wp2_with fail
  with_reducible refine Hc1.out.mono ?_
  rintro e w3 ⟨rfl, rfl⟩
  go_wp2_with fail
  rw [rounds_succ]
  go_wp2_with fail
  with_reducible refine Hc2.out.mono ?_
  rintro e w3 ⟨rfl, rfl⟩
  go_wp2_with fail
  go_ret
  exact ⟨rfl, Hb0.out⟩

end Go.Proofs.Ytbegeijofpgliab
