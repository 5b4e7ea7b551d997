/-
  The walk of the ledger's Check.
-/
import Derived.Test.YtbegeijofpgliabTagA
import Derived.Deep.RegionHeld3
namespace Go.Proofs.Ytbegeijofpgliab
open Go.RowKit Go.Maps

theorem led_asked {w : World} {g M n : Nat} {T : List Tg} {a : Nat} (h : Led w g M n T a) : Led (w.setCell ⟨g, 1, none⟩ (.int .i64 ((a + 1 : Nat) : Int))) g M n T (a + 1) ∧ KeptL g M w (w.setCell ⟨g, 1, none⟩ (.int .i64 ((a + 1 : Nat) : Int))) := by
  have h1 := heap_setCell_same w g 1 _ _ (.int .i64 ((a + 1 : Nat) : Int)) h.is
  obtain ⟨D, ⟨es, c, e1, e2⟩, e3⟩ := h.has
  refine ⟨⟨by rw [h1]; rfl, D, ⟨es, c, by rw [heap_setCell_other _ _ _ _ (Ne.symm h.ne)]; exact e1, e2⟩, e3⟩, ⟨rfl, rfl, rfl, by simp, fun k _ e _ => heap_setCell_other _ _ _ _ e⟩⟩

theorem KeptL.fwd {g M : Nat} {w w' w'' : World} (h : KeptL g M w w') (hb : Below w'.heap.size w' w'') : KeptL g M w w'' :=
  ⟨hb.os.trans h.os, hb.tape.trans h.tape, hb.output.trans h.output, Nat.le_trans h.size hb.size, fun k e1 e2 e3 => by rw [hb.block k (Nat.lt_of_lt_of_le e1 h.size)]; exact h.block k e1 e2 e3⟩

/-- What a look-up in the ledger answers. -/
theorem led_look {w : World} {g M n : Nat} {T : List Tg} {a : Nat} (h : Led w g M n T a) {x : Tg} (hx : x.Ok) :
    (Instr.lookup 59 (.map (some M)) (.agg (.int .i64 (x.frm : Int) :: .int .i64 (x.to : Int) :: dig x.d).toArray) true).run Try.prog w = .ok (.tuple #[.agg #[], .bool (decide (x ∈ T))]) w := by
  obtain ⟨D, hD, hs⟩ := h.has
  obtain ⟨v, ps, h1, h2⟩ := hD.look_ok (z := .agg #[]) Try.law67 Try.underlying59 (by kernel_rfl) unitElem_mk (keyL hx)
  obtain ⟨rfl, _⟩ := unitElem_inv h2
  rw [h1, hs.2 x hx]

set_option maxHeartbeats 1000000 in
theorem check14 {w : World} {g M n : Nat} {T : List Tg} {a : Nat} (h : Led w g M n T a) (x : Tg) (hx : x.Ok) (ha : a ≤ 1000) :
    Calls Try.prog 14 #[.pointer (some ⟨g, 0, none⟩), .int .i64 (x.frm : Int), .int .i64 (x.to : Int), .agg (digA x.d)] w fun e w' =>
      e = .returned (.bool (decide (x ∈ T) || decide ((⟨x.frm, 0, x.d⟩ : Tg) ∈ T))) ∧ Led w' g M n T (a + 1) ∧ KeptL g M w w' := by
  have Hx := Lib.hid hx
  have Ha := Lib.hid ha
  obtain ⟨V, hV⟩ : ∃ V, V = digA x.d := ⟨_, rfl⟩
  rw [← hV]
  obtain ⟨w0, hw0⟩ : ∃ w0, w0 = w.alloc (Obj.cells V 40) := ⟨_, rfl⟩
  have hb0 : Below w.heap.size w w0 := by rw [hw0]; exact (Below.refl _ w).alloc (Nat.le_refl _) _
  have hd0 : DigAt w0 w.heap.size x.d := by unfold DigAt; rw [hw0, ← hV]; exact heap_alloc_new w _
  have hl0 := h.later hb0
  obtain ⟨q0, q1, q2⟩ := hl0.cells
  have hadd := add25 q1 (q2 1) ha
  have hask := led_asked hl0
  have Hadd := Lib.hid hadd
  have Hask := Lib.hid hask
  have Hw0 := Lib.hid hw0
  have Hb0 := Lib.hid hb0
  have Hd0 := Lib.hid hd0
  have Hl0 := Lib.hid hl0
  have Hlt := Lib.hid h.lt
  clear h hw0 hb0 hd0 hl0 hV hx ha q0 q1 q2 hadd hask
  go_enter Try.func14, Try.ntmps14
  go_wp2_with fail
  rw [← Hw0.out]
  with_reducible refine (none26 Hl0.out).mono ?_
  rintro e w1 ⟨rfl, rfl⟩
  go_wp2_with fail
  with_reducible refine Hadd.out.mono ?_
  rintro e wA ⟨rfl, hwA⟩
  have hlA : Led wA g M n T (a + 1) := by rw [hwA]; exact Hask.out.1
  have hkA : KeptL g M w1 wA := by rw [hwA]; exact Hask.out.2
  have hdA : DigAt wA w.heap.size x.d := by
    have hne : w.heap.size ≠ g := by have := Hlt.out.1; omega
    unfold DigAt; rw [hwA, heap_setCell_other _ _ _ _ hne]; exact Hd0.out
  obtain ⟨cs, hcs⟩ : ∃ cs, cs = dig x.d := ⟨_, rfl⟩
  have hrg : wA.rangeAt w.heap.size 0 cs := by
    intro j v hj
    rw [Nat.zero_add, cell_of_row wA _ j _ _ _ hdA]
    rw [hcs] at hj
    simpa [digA] using hj
  have hu := Try.underlying40
  have hi : (Try.prog.info? 40).map (fun i => i.size) = some cs.length := by rw [Try.size40, hcs]; rfl
  have hcl : cs.length = 32 := by rw [hcs]; rfl
  have hc0 := hlA.cells.1
  have hgl : g < wA.heap.size := hlA.lt.1
  have hcA : (wA.alloc (Obj.cells #[] 52)).drew.cell? ⟨g, 0, none⟩ = some (.map (some M)) := by
    show (wA.alloc (Obj.cells #[] 52)).cell? ⟨g, 0, none⟩ = _
    rw [World.cell?_alloc_past _ _ _ hgl]; exact hc0
  have hl1 := led_look (w := wA.drew) (hlA.other fun _ _ => rfl) Hx.out
  have hl2 := led_look (w := (wA.alloc (Obj.cells #[] 52)).drew) ((hlA.later ((Below.refl _ wA).alloc (Nat.le_refl _) _)).other fun _ _ => rfl) Hx.out
  rw [← tag_key x cs hcs] at hl1 hl2
  have HlA := Lib.hid hlA
  have HkA := Lib.hid hkA
  have HdA := Lib.hid hdA
  have Hcs := Lib.hid hcs
  clear hwA hlA hkA hdA hcs Hadd Hask
  go_wp2_with fail
  go_region_held3 (fun w' => w'.cell? ⟨g, 0, none⟩ = some (.map (some M)) ∧ w'.rangeAt w.heap.size 0 cs) (first | (refine ⟨?_, ?_⟩; · (first | assumption | (go_simp; assumption) | go_simp); · (first | assumption | go_keep_ranges)) | go_keep_ranges) (fail)
  all_goals
    go_wp2_with fail
    obtain ⟨wB, hwB⟩ : ∃ wB, wB = (wA.alloc (Obj.cells #[] 52)).drew := ⟨_, rfl⟩
    have hbB : Below wA.heap.size wA wB := by rw [hwB]; exact ((Below.refl _ wA).alloc (Nat.le_refl _) _).drew
    rw [← hwB] at hcA ⊢
    have hgB : g < wB.heap.size := Nat.lt_of_lt_of_le hgl hbB.size
    have hrB : wB.rangeAt w.heap.size 0 cs := fun j v hj => cell_later hbB (hrg j v hj)
    have hlB := HlA.out.later hbB
    have hcB : (wB.alloc (Obj.cells #[] 52)).drew.cell? ⟨g, 0, none⟩ = some (.map (some M)) := by
      show (wB.alloc (Obj.cells #[] 52)).cell? ⟨g, 0, none⟩ = _
      rw [World.cell?_alloc_past _ _ _ hgB]; exact hcA
    have hy : (⟨x.frm, 0, x.d⟩ : Tg).Ok := ⟨Hx.out.1, by show 0 ≤ 40; omega, Hx.out.2.2⟩
    have hm1 := led_look (w := wB.drew) (hlB.other fun _ _ => rfl) hy
    have hm2 := led_look (w := (wB.alloc (Obj.cells #[] 52)).drew) ((hlB.later ((Below.refl _ wB).alloc (Nat.le_refl _) _)).other fun _ _ => rfl) hy
    rw [← tag_key ⟨x.frm, 0, x.d⟩ cs Hcs.out] at hm1 hm2
    simp only [Int.ofNat_zero] at hm1 hm2
    have HlB := Lib.hid hlB
    have HbB := Lib.hid hbB
    clear hwB hbB hlB hl1 hl2 hc0 hrg hy
    go_wp2_with fail
    go_region_held3 (fun w' => w'.cell? ⟨g, 0, none⟩ = some (.map (some M)) ∧ w'.rangeAt w.heap.size 0 cs) (first | (refine ⟨?_, ?_⟩; · (first | assumption | (go_simp; assumption) | go_simp); · (first | assumption | go_keep_ranges)) | go_keep_ranges) (fail)
    all_goals
      clear hm1 hm2
      have hlC := (HlB.out.later ((Below.refl wB.heap.size wB).alloc (Nat.le_refl _) (Obj.cells #[] 52))).other (w' := (wB.alloc (Obj.cells #[] 52)).drew) fun _ _ => rfl
      have HlC := Lib.hid hlC
      clear hlC
      rcases e1 : decide (x ∈ T) with _ | _ <;> rcases e2 : decide ((⟨x.frm, 0, x.d⟩ : Tg) ∈ T) with _ | _
      all_goals
        go_wp2_with fail
        go_ret
        exact ⟨ret_b (by rw [e1, e2]; rfl), HlC.out, (HkA.out.below Hb0.out).fwd ((HbB.out.trans ((Below.refl _ wB).alloc (Nat.le_refl _) (Obj.cells #[] 52) |>.mono HbB.out.size)).drew)⟩

end Go.Proofs.Ytbegeijofpgliab
