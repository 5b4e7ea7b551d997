/-
  What a round asks of the bag: numbers, and all that it has.
-/
import Derived.Test.YtbegeijofpgliabSwitch
import Derived.Test.YtbegeijofpgliabNext
import Derived.Deep.RegionHeld3
namespace Go.Proofs.Ytbegeijofpgliab
open Go.RowKit Go.Maps
set_option linter.unusedVariables false

set_option maxRecDepth 100000 in
set_option maxHeartbeats 2000000 in
/-- The bag's numbers. -/
theorem nums68 {a : Act} (w0 w : World) (F : Four) (k : Nat) (S : St) (A1 : Option Addr) (c1 : Nat) (A2 : Option Addr) (c2 n n2 m q : Nat) (V r : Int) (sl : Value) (hfr : Fr 425 a [(0, sl), (5, .pointer (some ⟨F.b, 0, none⟩)), (6, .pointer (some ⟨F.t, 0, none⟩)), (7, .slice A2 m c2), (8, .int .i64 S.s), (9, .int .i64 S.l), (10, .map (some F.N)), (11, .func (.func 7) #[] #[]), (12, .int .i64 ((k + 1 : Nat) : Int)), (13, .int .i64 k), (24, .int .i64 V), (25, .int .i64 r)])
    (hinv : Inv w0 F w A1 c1 S.L S.s S.l A2 c2 S.L n S.T q n2 S.T) (hok : S.Ok (k + 1)) (hk : k < 40) (hm : m = S.L.length) (hf : First V S.L r) :
    (part [1, 1, 1, 1, 1, 1, 1, 1, 1, 1, 1, 1, 1, 1, 0] cB).wp Try.prog (Only fun a' w' => Below w.heap.size w w' ∧ Fr 425 a' [(0, sl), (5, .pointer (some ⟨F.b, 0, none⟩)), (6, .pointer (some ⟨F.t, 0, none⟩)), (7, .slice A2 m c2), (8, .int .i64 S.s), (9, .int .i64 S.l), (10, .map (some F.N)), (11, .func (.func 7) #[] #[]), (12, .int .i64 ((k + 1 : Nat) : Int)), (13, .int .i64 k)]) a w := by
  obtain ⟨t, rfl⟩ := hfr.lit
  change Code.wp _ _ _ ⟨#[sl, t 1, t 2, t 3, t 4, .pointer (some ⟨F.b, 0, none⟩), .pointer (some ⟨F.t, 0, none⟩), .slice A2 m c2, .int .i64 S.s, .int .i64 S.l, .map (some F.N), .func (.func 7) #[] #[], .int .i64 ((k + 1 : Nat) : Int), .int .i64 k, t 14, t 15, t 16, t 17, t 18, t 19, t 20, t 21, t 22, t 23, .int .i64 V, .int .i64 r, t 26, t 27, t 28, t 29, t 30, t 31, t 32, t 33, t 34, t 35, t 36, t 37, t 38, t 39, t 40, t 41, t 42, t 43, t 44, t 45, t 46, t 47, t 48, t 49, t 50, t 51, t 52, t 53, t 54, t 55, t 56, t 57, t 58, t 59, t 60, t 61, t 62, t 63, t 64, t 65, t 66, t 67, t 68, t 69, t 70, t 71, t 72, t 73, t 74, t 75, t 76, t 77, t 78, t 79, t 80, t 81, t 82, t 83, t 84, t 85, t 86, t 87, t 88, t 89, t 90, t 91, t 92, t 93, t 94, t 95, t 96, t 97, t 98, t 99, t 100, t 101, t 102, t 103, t 104, t 105, t 106, t 107, t 108, t 109, t 110, t 111, t 112, t 113, t 114, t 115, t 116, t 117, t 118, t 119, t 120, t 121, t 122, t 123, t 124, t 125, t 126, t 127, t 128, t 129, t 130, t 131, t 132, t 133, t 134, t 135, t 136, t 137, t 138, t 139, t 140, t 141, t 142, t 143, t 144, t 145, t 146, t 147, t 148, t 149, t 150, t 151, t 152, t 153, t 154, t 155, t 156, t 157, t 158, t 159, t 160, t 161, t 162, t 163, t 164, t 165, t 166, t 167, t 168, t 169, t 170, t 171, t 172, t 173, t 174, t 175, t 176, t 177, t 178, t 179, t 180, t 181, t 182, t 183, t 184, t 185, t 186, t 187, t 188, t 189, t 190, t 191, t 192, t 193, t 194, t 195, t 196, t 197, t 198, t 199, t 200, t 201, t 202, t 203, t 204, t 205, t 206, t 207, t 208, t 209, t 210, t 211, t 212, t 213, t 214, t 215, t 216, t 217, t 218, t 219, t 220, t 221, t 222, t 223, t 224, t 225, t 226, t 227, t 228, t 229, t 230, t 231, t 232, t 233, t 234, t 235, t 236, t 237, t 238, t 239, t 240, t 241, t 242, t 243, t 244, t 245, t 246, t 247, t 248, t 249, t 250, t 251, t 252, t 253, t 254, t 255, t 256, t 257, t 258, t 259, t 260, t 261, t 262, t 263, t 264, t 265, t 266, t 267, t 268, t 269, t 270, t 271, t 272, t 273, t 274, t 275, t 276, t 277, t 278, t 279, t 280, t 281, t 282, t 283, t 284, t 285, t 286, t 287, t 288, t 289, t 290, t 291, t 292, t 293, t 294, t 295, t 296, t 297, t 298, t 299, t 300, t 301, t 302, t 303, t 304, t 305, t 306, t 307, t 308, t 309, t 310, t 311, t 312, t 313, t 314, t 315, t 316, t 317, t 318, t 319, t 320, t 321, t 322, t 323, t 324, t 325, t 326, t 327, t 328, t 329, t 330, t 331, t 332, t 333, t 334, t 335, t 336, t 337, t 338, t 339, t 340, t 341, t 342, t 343, t 344, t 345, t 346, t 347, t 348, t 349, t 350, t 351, t 352, t 353, t 354, t 355, t 356, t 357, t 358, t 359, t 360, t 361, t 362, t 363, t 364, t 365, t 366, t 367, t 368, t 369, t 370, t 371, t 372, t 373, t 374, t 375, t 376, t 377, t 378, t 379, t 380, t 381, t 382, t 383, t 384, t 385, t 386, t 387, t 388, t 389, t 390, t 391, t 392, t 393, t 394, t 395, t 396, t 397, t 398, t 399, t 400, t 401, t 402, t 403, t 404, t 405, t 406, t 407, t 408, t 409, t 410, t 411, t 412, t 413, t 414, t 415, t 416, t 417, t 418, t 419, t 420, t 421, t 422, t 423, t 424], []⟩ _
  have h17 := len17 hinv.bag
  rw [← hm] at h17
  have h18 := sent18 hinv.bag
  have h19 := lost19 hinv.bag
  have h20 := next20 hinv.bag V (by have := hok.len; omega) hok.nm
  have H17 := Lib.hid h17
  have H18 := Lib.hid h18
  have H19 := Lib.hid h19
  have H20 := Lib.hid h20
  have Hf := Lib.hid hf
  clear hfr hinv hok hm hf h17 h18 h19 h20
  conv => arg 2; whnf
  go_wp2_with fail
  with_reducible refine H17.out.mono ?_
  rintro e w1 ⟨rfl, rfl⟩
  go_wp2_with fail
  with_reducible refine H18.out.mono ?_
  rintro e w2 ⟨rfl, rfl⟩
  go_wp2_with fail
  with_reducible refine H19.out.mono ?_
  rintro e w3 ⟨rfl, rfl⟩
  go_wp2_with fail
  with_reducible refine H20.out.mono ?_
  rintro e w4 ⟨hb, r', rfl, hf'⟩
  obtain rfl := hf'.uniq Hf.out
  have Hb := Lib.hid hb
  clear hf' hb
  go_wp2_with fail
  exact ⟨Hb.out, (fr_cons rfl (fr_cons rfl (fr_cons rfl (fr_cons rfl (fr_cons rfl (fr_cons rfl (fr_cons rfl (fr_cons rfl (fr_cons rfl (fr_cons rfl (fr_nil rfl)))))))))))⟩

set_option maxRecDepth 100000 in
set_option maxHeartbeats 8000000 in
/-- All that the bag has, looked at. -/
theorem loop70 {a : Act} (w0 w : World) (F : Four) (k : Nat) (S : St) (A1 : Option Addr) (c1 : Nat) (A2 : Option Addr) (c2 n n2 m q : Nat) (sl : Value) (hfr : Fr 425 a [(0, sl), (5, .pointer (some ⟨F.b, 0, none⟩)), (6, .pointer (some ⟨F.t, 0, none⟩)), (7, .slice A2 m c2), (8, .int .i64 S.s), (9, .int .i64 S.l), (10, .map (some F.N)), (11, .func (.func 7) #[] #[]), (12, .int .i64 ((k + 1 : Nat) : Int)), (13, .int .i64 k), (27, .int .i64 (-1))])
    (hinv : Inv w0 F w A1 c1 S.L S.s S.l A2 c2 S.L n S.T q n2 S.T) (hm : m = S.L.length) (hm1 : m ≤ 100) :
    (part [1, 1, 1, 1, 1, 1, 1, 1, 1, 1, 1, 1, 1, 1, 1, 1] cB).wp Try.prog (Only fun a' w' => Below w.heap.size w w' ∧ Fr 425 a' [(0, sl), (5, .pointer (some ⟨F.b, 0, none⟩)), (6, .pointer (some ⟨F.t, 0, none⟩)), (7, .slice A2 m c2), (8, .int .i64 S.s), (9, .int .i64 S.l), (10, .map (some F.N)), (11, .func (.func 7) #[] #[]), (12, .int .i64 ((k + 1 : Nat) : Int)), (13, .int .i64 k)]) a w := by
  obtain ⟨t, rfl⟩ := hfr.lit
  change Code.wp _ _ _ ⟨#[sl, t 1, t 2, t 3, t 4, .pointer (some ⟨F.b, 0, none⟩), .pointer (some ⟨F.t, 0, none⟩), .slice A2 m c2, .int .i64 S.s, .int .i64 S.l, .map (some F.N), .func (.func 7) #[] #[], .int .i64 ((k + 1 : Nat) : Int), .int .i64 k, t 14, t 15, t 16, t 17, t 18, t 19, t 20, t 21, t 22, t 23, t 24, t 25, t 26, .int .i64 (-1), t 28, t 29, t 30, t 31, t 32, t 33, t 34, t 35, t 36, t 37, t 38, t 39, t 40, t 41, t 42, t 43, t 44, t 45, t 46, t 47, t 48, t 49, t 50, t 51, t 52, t 53, t 54, t 55, t 56, t 57, t 58, t 59, t 60, t 61, t 62, t 63, t 64, t 65, t 66, t 67, t 68, t 69, t 70, t 71, t 72, t 73, t 74, t 75, t 76, t 77, t 78, t 79, t 80, t 81, t 82, t 83, t 84, t 85, t 86, t 87, t 88, t 89, t 90, t 91, t 92, t 93, t 94, t 95, t 96, t 97, t 98, t 99, t 100, t 101, t 102, t 103, t 104, t 105, t 106, t 107, t 108, t 109, t 110, t 111, t 112, t 113, t 114, t 115, t 116, t 117, t 118, t 119, t 120, t 121, t 122, t 123, t 124, t 125, t 126, t 127, t 128, t 129, t 130, t 131, t 132, t 133, t 134, t 135, t 136, t 137, t 138, t 139, t 140, t 141, t 142, t 143, t 144, t 145, t 146, t 147, t 148, t 149, t 150, t 151, t 152, t 153, t 154, t 155, t 156, t 157, t 158, t 159, t 160, t 161, t 162, t 163, t 164, t 165, t 166, t 167, t 168, t 169, t 170, t 171, t 172, t 173, t 174, t 175, t 176, t 177, t 178, t 179, t 180, t 181, t 182, t 183, t 184, t 185, t 186, t 187, t 188, t 189, t 190, t 191, t 192, t 193, t 194, t 195, t 196, t 197, t 198, t 199, t 200, t 201, t 202, t 203, t 204, t 205, t 206, t 207, t 208, t 209, t 210, t 211, t 212, t 213, t 214, t 215, t 216, t 217, t 218, t 219, t 220, t 221, t 222, t 223, t 224, t 225, t 226, t 227, t 228, t 229, t 230, t 231, t 232, t 233, t 234, t 235, t 236, t 237, t 238, t 239, t 240, t 241, t 242, t 243, t 244, t 245, t 246, t 247, t 248, t 249, t 250, t 251, t 252, t 253, t 254, t 255, t 256, t 257, t 258, t 259, t 260, t 261, t 262, t 263, t 264, t 265, t 266, t 267, t 268, t 269, t 270, t 271, t 272, t 273, t 274, t 275, t 276, t 277, t 278, t 279, t 280, t 281, t 282, t 283, t 284, t 285, t 286, t 287, t 288, t 289, t 290, t 291, t 292, t 293, t 294, t 295, t 296, t 297, t 298, t 299, t 300, t 301, t 302, t 303, t 304, t 305, t 306, t 307, t 308, t 309, t 310, t 311, t 312, t 313, t 314, t 315, t 316, t 317, t 318, t 319, t 320, t 321, t 322, t 323, t 324, t 325, t 326, t 327, t 328, t 329, t 330, t 331, t 332, t 333, t 334, t 335, t 336, t 337, t 338, t 339, t 340, t 341, t 342, t 343, t 344, t 345, t 346, t 347, t 348, t 349, t 350, t 351, t 352, t 353, t 354, t 355, t 356, t 357, t 358, t 359, t 360, t 361, t 362, t 363, t 364, t 365, t 366, t 367, t 368, t 369, t 370, t 371, t 372, t 373, t 374, t 375, t 376, t 377, t 378, t 379, t 380, t 381, t 382, t 383, t 384, t 385, t 386, t 387, t 388, t 389, t 390, t 391, t 392, t 393, t 394, t 395, t 396, t 397, t 398, t 399, t 400, t 401, t 402, t 403, t 404, t 405, t 406, t 407, t 408, t 409, t 410, t 411, t 412, t 413, t 414, t 415, t 416, t 417, t 418, t 419, t 420, t 421, t 422, t 423, t 424], []⟩ _
  have Hinv := Lib.hid hinv
  have Hm := Lib.hid hm
  clear hfr hinv hm
  conv => arg 2; whnf
  go_wp2_with fail
  go_loopw [27] (fun i wr => ∃ j : Nat, j ≤ m + 2 ∧ i = .int .i64 ((j : Int) - 1) ∧ Hid (Below w.heap.size w wr)) (fun i _ => (m + 2 - (intOf i + 1).toNat))
  case atStart => exact ⟨0, by omega, rfl, Below.refl _ _⟩
  case round =>
    obtain ⟨j, hj, rfl, hb⟩ := hrel
    have hinvr := Hinv.out.later hb.out
    have Hb := Lib.hid hb.out
    have Hinvr := Lib.hid hinvr
    clear hb hinvr
    by_cases h0 : j = m + 2
    · subst h0
      have d0 : decide (((m + 2 : Nat) : Int) - 1 ≤ (m : Int)) = false := by simp; omega
      go_wp2_with fail
      exact ⟨Hb.out, (fr_cons rfl (fr_cons rfl (fr_cons rfl (fr_cons rfl (fr_cons rfl (fr_cons rfl (fr_cons rfl (fr_cons rfl (fr_cons rfl (fr_cons rfl (fr_nil rfl)))))))))))⟩
    · by_cases h1 : j = 0
      · subst h1
        rw [show (((0 : Nat) : Int) - 1) = -1 from rfl]
        have d0 : decide ((-1 : Int) ≤ (m : Int)) = true := by rw [decide_eq_true_eq]; omega
        have hlook := look21 Hinvr.out.bag (-1)
        have Hlook := Lib.hid hlook
        clear hlook
        have hm0 : (0 : Int) ≤ (m : Int) := by omega
        go_wp2_with fail
        with_reducible refine Hlook.out.mono ?_
        rintro e w1 ⟨hb1, ⟨y, h2, h3, -⟩ | ⟨-, rfl⟩⟩
        · exfalso
          omega
        · have hb2 : Below w.heap.size w (w1.alloc (.cells #[.int .i64 0, .int .i64 0, .slice none 0 0] 36)) := (Hb.out.trans (hb1.mono Hb.out.size)).alloc (Nat.le_trans Hb.out.size hb1.size) _
          have Hb2 := Lib.hid hb2
          clear hb1 hb2
          go_wp2_with fail
          go_roundw
          case rel => exact ⟨1, by omega, by go_num, Hb2.out⟩
          case measure => simp [intOf] <;> omega
      · obtain ⟨i, rfl⟩ : ∃ i, j = i + 1 := ⟨j - 1, by omega⟩
        rw [show (((i + 1 : Nat) : Int) - 1) = (i : Int) from by omega]
        have d0 : decide ((i : Int) ≤ (m : Int)) = true := by simp; omega
        have d1 : decide ((i : Int) < 0) = false := by simp
        by_cases h2 : i = m
        · subst h2
          have d2 : ((i : Int) == (i : Int)) = true := by simp
          have hlook := look21 Hinvr.out.bag (i : Int)
          have Hlook := Lib.hid hlook
          clear hlook
          go_wp2_with fail
          with_reducible refine Hlook.out.mono ?_
          rintro e w1 ⟨hb1, ⟨y, h2, h3, -⟩ | ⟨-, rfl⟩⟩
          · exfalso
            rw [Int.toNat_natCast] at h3
            rw [List.getElem?_eq_none (by have := Hm.out; omega)] at h3
            cases h3
          · have hb2 : Below w.heap.size w (w1.alloc (.cells #[.int .i64 0, .int .i64 0, .slice none 0 0] 36)) := (Hb.out.trans (hb1.mono Hb.out.size)).alloc (Nat.le_trans Hb.out.size hb1.size) _
            have Hb2 := Lib.hid hb2
            clear hb1 hb2
            go_wp2_with fail
            go_roundw
            case rel => exact ⟨i + 2, by omega, by go_num, Hb2.out⟩
            case measure => simp [intOf] <;> omega
        · have d2 : ((i : Int) == (m : Int)) = false := by simp; omega
          have him : i < m := by omega
          have hlook := look21 Hinvr.out.bag (i : Int)
          have Hlook := Lib.hid hlook
          clear hlook
          go_wp2_with fail
          with_reducible refine Hlook.out.mono ?_
          rintro e w1 ⟨hb1, ⟨y, h3, h4, g1, c3, rfl, hby⟩ | ⟨h3 | h3, -⟩⟩
          · rw [Int.toNat_natCast] at h4
            unfold env
            obtain ⟨wz, hwz⟩ : ∃ wz, wz = w1.alloc (.cells #[.int .i64 (y.frm : Int), .int .i64 (y.to : Int), .slice (some ⟨g1, 0, none⟩) 2 c3] 36) := ⟨_, rfl⟩
            have hbz : Below w1.heap.size w1 wz := by rw [hwz]; exact (Below.refl _ w1).alloc (Nat.le_refl _) _
            have hgot : wz.heap[w1.heap.size]? = some (.cells #[.int .i64 (y.frm : Int), .int .i64 (y.to : Int), .slice (some ⟨g1, 0, none⟩) 2 c3] 36 (0, 0)) := by rw [hwz]; exact heap_alloc_new w1 _
            have hinvz := (Hinvr.out.later hb1).later hbz
            have hbyz := hby.same (Below.same5 hbz)
            obtain ⟨xs, hrow, hms⟩ := hinvz.all
            obtain ⟨gN, hA⟩ := hrow.some (by have := Hm.out; omega)
            obtain ⟨g4, c4, a0, a1, a2, hby4⟩ := hms.2 i y h4
            have b0 := hrow.cell hA _ _ a0
            have b1 := hrow.cell hA _ _ a1
            have b2 := hrow.cell hA _ _ a2
            have r0 := cell_of_row wz _ 0 _ _ _ hgot
            have r1 := cell_of_row wz _ 1 _ _ _ hgot
            have r2 := cell_of_row wz _ 2 _ _ _ hgot
            simp only [List.getElem?_toArray, List.getElem?_cons_zero, List.getElem?_cons_succ] at r0 r1 r2
            have hsame := same7 (w := wz.drew) c3 c4 hbyz.drew hby4.drew
            have Hsame := Lib.hid hsame
            subst hA
            have Hwz := Lib.hid hwz
            have Hbz := Lib.hid (((Hb.out.trans (hb1.mono Hb.out.size)).trans (hbz.mono (Nat.le_trans Hb.out.size hb1.size))).drew)
            have hHeld0 : wz.cell? ⟨w1.heap.size, 0, none⟩ = some (.int .i64 (y.frm : Int)) ∧ wz.cell? ⟨w1.heap.size, 1, none⟩ = some (.int .i64 (y.to : Int)) ∧ wz.cell? ⟨w1.heap.size, 2, none⟩ = some (.slice (some ⟨g1, 0, none⟩) 2 c3) ∧ wz.cell? ⟨gN, i * 3, none⟩ = some (.int .i64 (y.frm : Int)) ∧ wz.cell? ⟨gN, i * 3 + 1, none⟩ = some (.int .i64 (y.to : Int)) ∧ wz.cell? ⟨gN, i * 3 + 2, none⟩ = some (.slice (some ⟨g4, 0, none⟩) 2 c4) := ⟨r0, r1, r2, b0, b1, b2⟩
            clear hwz hsame hrow hms hb1 hbz hinvz hby hbyz hby4 hgot h4 a0 a1 a2 r0 r1 r2 b0 b1 b2 h3
            go_wp2_with fail
            rw [← Hwz.out]
            go_region_held3 (fun w' => w'.cell? ⟨w1.heap.size, 0, none⟩ = some (.int .i64 (y.frm : Int)) ∧ w'.cell? ⟨w1.heap.size, 1, none⟩ = some (.int .i64 (y.to : Int)) ∧ w'.cell? ⟨w1.heap.size, 2, none⟩ = some (.slice (some ⟨g1, 0, none⟩) 2 c3) ∧ w'.cell? ⟨gN, i * 3, none⟩ = some (.int .i64 (y.frm : Int)) ∧ w'.cell? ⟨gN, i * 3 + 1, none⟩ = some (.int .i64 (y.to : Int)) ∧ w'.cell? ⟨gN, i * 3 + 2, none⟩ = some (.slice (some ⟨g4, 0, none⟩) 2 c4)) (first | exact hHeld0 | (exact held_below hbs hHeld0))
              (first | (with_reducible refine Hsame.out.mono ?_; rintro e w3 ⟨rfl, hbs⟩))
            have Hb3 := Lib.hid (Hbz.out.trans (hbs.mono Hbz.out.size))
            clear hbs hHeld0
            go_wp2_with fail
            go_roundw
            case rel => exact ⟨i + 2, by omega, by go_num, Hb3.out⟩
            case measure => simp [intOf]; omega
          · exfalso; omega
          · exfalso; have := Hm.out; omega

end Go.Proofs.Ytbegeijofpgliab
