/-
  The walks of the bag's small functions.
-/
import Derived.Test.YtbegeijofpgliabBase
import Derived.Laws.LoneSync
import Derived.Lib.SliceRun
import Derived.Lib.Walk
namespace Go.Proofs.Ytbegeijofpgliab
open Go.RowKit

theorem ret_b {a b : Bool} (h : a = b) : Ending.returned (.bool a) = .returned (.bool b) := by rw [h]

theorem named23 (n : Nat) (w : World) : Calls Try.prog 23 #[.int .i64 (n : Int)] w fun e w' => e = .returned (.bool (named n)) ∧ w' = w := by
  by_cases h1 : (1 : Int) ≤ (n : Int)
  · have d1 : decide ((n : Int) ≥ 1) = true := by simpa using h1
    by_cases h2 : (n : Int) ≤ 34
    · have d2 : decide ((n : Int) ≤ 34) = true := by simpa using h2
      go_enter Try.func23, Try.ntmps23
      go_wp2
      go_ret
      exact ⟨ret_b (by simp [named]; omega), rfl⟩
    · have d2 : decide ((n : Int) ≤ 34) = false := by simpa using h2
      go_enter Try.func23, Try.ntmps23
      go_wp2
      go_ret
      exact ⟨ret_b (by simp [named]; omega), rfl⟩
  · have d1 : decide ((n : Int) ≥ 1) = false := by simpa using h1
    go_enter Try.func23, Try.ntmps23
    go_wp2
    go_ret
    exact ⟨ret_b (by simp [named]; omega), rfl⟩

theorem none22 {w : World} {g : Nat} {A : Option Addr} {cap : Nat} {L : List Msg} {s l : Nat} (h : Bag w g A cap L s l) : Calls Try.prog 22 #[.pointer (some ⟨g, 0, none⟩)] w fun e w' => e = .returned (.bool false) ∧ w' = w := by
  obtain ⟨h0, h1, h2, h3, h4⟩ := h.cells
  have H := Lib.hid h
  clear h
  go_enter Try.func22, Try.ntmps22
  go_wp2
  go_ret
  exact ⟨rfl, rfl⟩

theorem len17 {w : World} {g : Nat} {A : Option Addr} {cap : Nat} {L : List Msg} {s l : Nat} (h : Bag w g A cap L s l) : Calls Try.prog 17 #[.pointer (some ⟨g, 0, none⟩)] w fun e w' => e = .returned (.int .i64 L.length) ∧ w' = w := by
  obtain ⟨h0, h1, h2, h3, h4⟩ := h.cells
  have H := Lib.hid h
  clear h
  go_enter Try.func17, Try.ntmps17
  go_wp2_with fail
  with_reducible refine (none22 H.out).mono ?_
  rintro e w1 ⟨rfl, rfl⟩
  go_wp2_with fail
  go_ret
  exact ⟨rfl, rfl⟩

theorem load28 {w : World} {g o : Nat} {x : Int} (h : w.cell? ⟨g, o, none⟩ = some (.int .i64 x)) : Calls Try.prog 28 #[.pointer (some ⟨g, o, none⟩)] w fun e w' => e = .returned (.int .i64 x) ∧ w' = w := by
  have hl := run_call_load (P := Try.prog) Try.func34 (by kernel_rfl) (by kernel_rfl) (by kernel_rfl) .i64 (by kernel_rfl) (a := ⟨g, o, none⟩) h
  go_enter Try.func28, Try.ntmps28
  go_wp2
  go_ret
  exact ⟨rfl, rfl⟩

theorem add25 {w : World} {g o x : Nat} (h : w.cell? ⟨g, o, none⟩ = some (.int .i64 (x : Int))) (hf : w.frozen? ⟨g, o, none⟩ = false) (hx : x ≤ 1000) :
    Calls Try.prog 25 #[.pointer (some ⟨g, o, none⟩), .int .i64 1] w fun e w' => e = .returned (.int .i64 ((x + 1 : Nat) : Int)) ∧ w' = w.setCell ⟨g, o, none⟩ (.int .i64 ((x + 1 : Nat) : Int)) := by
  have hs : (Op.intArith .add .i64 (x : Int) 1).run Try.prog w = .ok (.int .i64 ((x + 1 : Nat) : Int)) w := by
    have hw : IntKind.i64.wrap ((x : Int) + 1) = ((x + 1 : Nat) : Int) := by
      rw [IntKind.wrap_i64]; omega
    simp [go_sem, hw]
  have hl := run_call_add (P := Try.prog) Try.func33 (by kernel_rfl) (by kernel_rfl) (by kernel_rfl) .i64 (by kernel_rfl) (a := ⟨g, o, none⟩) (y := 1) h hf hs
  clear hs
  go_enter Try.func25, Try.ntmps25
  go_wp2
  go_ret
  exact ⟨rfl, rfl⟩

theorem sent18 {w : World} {g : Nat} {A : Option Addr} {cap : Nat} {L : List Msg} {s l : Nat} (h : Bag w g A cap L s l) : Calls Try.prog 18 #[.pointer (some ⟨g, 0, none⟩)] w fun e w' => e = .returned (.int .i64 s) ∧ w' = w := by
  obtain ⟨h0, h1, h2, h3, h4⟩ := h.cells
  have H := Lib.hid h
  clear h
  go_enter Try.func18, Try.ntmps18
  go_wp2_with fail
  with_reducible refine (none22 H.out).mono ?_
  rintro e w1 ⟨rfl, rfl⟩
  go_wp2_with fail
  with_reducible refine (load28 h2).mono ?_
  rintro e w1 ⟨rfl, rfl⟩
  go_wp2_with fail
  go_ret
  exact ⟨rfl, rfl⟩

theorem lost19 {w : World} {g : Nat} {A : Option Addr} {cap : Nat} {L : List Msg} {s l : Nat} (h : Bag w g A cap L s l) : Calls Try.prog 19 #[.pointer (some ⟨g, 0, none⟩)] w fun e w' => e = .returned (.int .i64 l) ∧ w' = w := by
  obtain ⟨h0, h1, h2, h3, h4⟩ := h.cells
  have H := Lib.hid h
  clear h
  go_enter Try.func19, Try.ntmps19
  go_wp2_with fail
  with_reducible refine (none22 H.out).mono ?_
  rintro e w1 ⟨rfl, rfl⟩
  go_wp2_with fail
  with_reducible refine (load28 h3).mono ?_
  rintro e w1 ⟨rfl, rfl⟩
  go_wp2_with fail
  go_ret
  exact ⟨rfl, rfl⟩

/-- A note's value. -/
def env (m : Msg) (g c : Nat) : Value := .agg #[.int .i64 (m.frm : Int), .int .i64 (m.to : Int), .slice (some ⟨g, 0, none⟩) 2 c]

theorem byt_of_row {w : World} {A : Option Addr} {cap : Nat} {m : Msg} (h : Row w 5 1 A 2 cap [.int .u8 m.b.toNat, .int .u8 m.k]) : ∃ g, A = some ⟨g, 0, none⟩ ∧ Byt w g m := by
  obtain ⟨_, ⟨_, h2, _⟩ | ⟨g, cur, rfl, h3, _, _, _, h7⟩⟩ := h
  · omega
  · refine ⟨g, rfl, cur, h3, ?_, ?_⟩
    · have : (cur.toList.take (2 * 1))[0]? = some (.int .u8 m.b.toNat) := by rw [h7]; rfl
      simpa using this
    · have : (cur.toList.take (2 * 1))[1]? = some (.int .u8 m.k) := by rw [h7]; rfl
      simpa using this

theorem clone32 {w : World} {g : Nat} {m : Msg} (c : Nat) (h : Byt w g m) : Calls Try.prog 32 #[.slice (some ⟨g, 0, none⟩) 2 c] w fun e w' => Below w.heap.size w w' ∧ ∃ g' c', e = .returned (.slice (some ⟨g', 0, none⟩) 2 c') ∧ Byt w' g' m := by
  obtain ⟨i, hi, he⟩ : ∃ i, Try.prog.info? 5 = some i ∧ (i.zero, i.size, i.bytes) = (some (.int .u8 0), 1, 1) := by
    have := Try.info5
    rw [Option.map_eq_some_iff] at this
    exact this
  simp only [Prod.mk.injEq] at he
  obtain ⟨hz, hsz, hby⟩ := he
  have q34 : ∀ (w : World) (a : Option Addr) (n c n' c' : Nat), (binOp .eql 34 (.slice a n c) (.slice none n' c')).run Try.prog w = .ok (.bool a.isNone) w := fun w a n c n' c' => Lib.run_eql_slice_nil w _ _ a n c n' c' Try.underlying34
  have H := Lib.hid h
  have Hi := Lib.hid hi
  have Hz := Lib.hid hz
  have Hs := Lib.hid hsz
  have Hb := Lib.hid hby
  clear h hi hz hsz hby
  go_enter Try.func32, Try.ntmps32
  go_wp2_with (at_builtin; refine wpList_append_row _ rfl _ _ 34 rfl 5 i _ 1 1 Try.underlying34 Hi.out Hz.out Hs.out Hb.out rfl (by omega) (some ⟨w.heap.size, 0, none⟩) 0 0 [] rfl ?qr ⟨g, 0, none⟩ 2 c [.int .u8 m.b.toNat, .int .u8 m.k] rfl rfl ?qc2 ?qc3 (by simp [maxLen]) (by omega) ?_)
  case qr => exact ⟨rfl, .inr ⟨w.heap.size, #[], rfl, heap_alloc_new w _, by omega, by simp [maxLen], by simp, rfl⟩⟩
  case qc2 =>
    intro j u hj
    rw [Addr.add_lit, Nat.zero_add]
    have hb := H.out.cells
    match j, hj with
    | 0, hj => cases hj; exact Lib.cell?_alloc_some _ hb.1
    | 1, hj => cases hj; exact Lib.cell?_alloc_some _ hb.2
  case qc3 => simp [Value.oneCell']
  rintro A' cap' w1 hrow hgr -
  go_wp2_with fail
  go_ret
  obtain ⟨g', rfl, hb'⟩ := byt_of_row (by simpa using hrow)
  refine ⟨((Below.refl _ w).alloc (Nat.le_refl _) _).grown hgr (by simp) (by intro k hk; cases hk; exact Nat.le_refl _), g', cap', rfl, hb'⟩
theorem own24 {w : World} {g : Nat} {m : Msg} (c : Nat) (h : Byt w g m) : Calls Try.prog 24 #[env m g c] w fun e w' => Below w.heap.size w w' ∧ ∃ g' c', e = .returned (env m g' c') ∧ Byt w' g' m := by
  have H := Lib.hid h
  clear h
  unfold env
  go_enter Try.func24, Try.ntmps24
  go_wp2_with fail
  obtain ⟨wX, hwX⟩ : ∃ wX, wX = (w.alloc (Obj.cells #[Value.int IntKind.i64 ↑m.frm, Value.int IntKind.i64 ↑m.to, Value.slice (some { block := g, off := 0 }) 2 c] 36)).alloc (Obj.cells #[Value.int IntKind.i64 0, Value.int IntKind.i64 0, Value.slice none 0 0] 36) := ⟨_, rfl⟩
  rw [← hwX]
  have hbX : Below w.heap.size w wX := by rw [hwX]; exact ((Below.refl _ w).alloc (Nat.le_refl _) _).alloc (by simp) _
  have hs : wX.heap.size = w.heap.size + 2 := by rw [hwX]; simp
  have a1 : wX.heap[w.heap.size]? = some (.cells #[Value.int IntKind.i64 ↑m.frm, Value.int IntKind.i64 ↑m.to, Value.slice (some { block := g, off := 0 }) 2 c] 36 (0, 0)) := by rw [hwX]; exact heap_alloc2_old w _ _
  have a2 : wX.heap[w.heap.size + 1]? = some (.cells #[Value.int IntKind.i64 0, Value.int IntKind.i64 0, Value.slice none 0 0] 36 (0, 0)) := by rw [hwX]; exact heap_alloc2_new w _ _
  clear hwX
  with_reducible refine (clone32 c (H.out.same (Below.same5 hbX))).mono ?_
  rintro e w1 ⟨hb1, g', c', rfl, hg'⟩
  have b1 : w1.heap[w.heap.size]? = some (.cells #[Value.int IntKind.i64 ↑m.frm, Value.int IntKind.i64 ↑m.to, Value.slice (some { block := g, off := 0 }) 2 c] 36 (0, 0)) := by rw [hb1.block _ (by omega)]; exact a1
  have b2 : w1.heap[w.heap.size + 1]? = some (.cells #[Value.int IntKind.i64 0, Value.int IntKind.i64 0, Value.slice none 0 0] 36 (0, 0)) := by rw [hb1.block _ (by omega)]; exact a2
  have hbb := hbX.trans (hb1.mono hbX.size)
  have p0 := cell_of_row w1 _ 0 _ _ _ b1
  have p1 := cell_of_row w1 _ 1 _ _ _ b1
  have p2 := cell_of_row w1 _ 2 _ _ _ b1
  have f2 := frozen_of_row w1 _ 2 _ _ b1
  have r0 := cell_of_row w1 _ 0 _ _ _ b2
  have r1 := cell_of_row w1 _ 1 _ _ _ b2
  have r2 := cell_of_row w1 _ 2 _ _ _ b2
  have s0 := frozen_of_row w1 _ 0 _ _ b2
  have s1 := frozen_of_row w1 _ 1 _ _ b2
  have s2 := frozen_of_row w1 _ 2 _ _ b2
  simp only [List.getElem?_toArray, List.getElem?_cons_zero, List.getElem?_cons_succ] at p0 p1 p2 r0 r1 r2
  have Hg := Lib.hid hg'
  have Hn1 := Lib.hid (hg'.ne b1)
  have Hn2 := Lib.hid (hg'.ne b2)
  have Hbb := Lib.hid hbb
  have Hs := Lib.hid hs
  have Hb1 := Lib.hid hb1
  clear hg' hbb hbX hb1 hs a1 a2 b1 b2
  go_wp2_with fail
  refine bodyPost_ret (v := env m g' c') (by simp [results, Try.results24, go_sem, *, env]) rfl ?_
  exact ⟨(((Hbb.out.setCell (by simp) _).setCell (by simp) _).setCell (by simp) _).setCell (by simp) _, g', c', rfl, (((Hg.out.set Hn1.out _).set Hn2.out _).set Hn2.out _).set Hn2.out _⟩
end Go.Proofs.Ytbegeijofpgliab
