/-
  The test of the bag and the ledger: all rounds.
-/
import Derived.Test.YtbegeijofpgliabRound
namespace Go.Proofs.Ytbegeijofpgliab
open Go.RowKit Go.Maps
set_option linter.unusedVariables false

/-- A round with its test. -/
noncomputable def cL : Code := part [1, 1, 1, 1, 1, 1, 1, 0, 1, 4, 4] body4

theorem steps_le (l : List Note5) : steps l ≤ l.length ∧ steps l ≤ 40 := by unfold steps; omega

theorem after_succ (l : List Note5) (k : Nat) : after l (k + 1) = (after l k).step k (noteAt l k) := rfl

set_option maxRecDepth 100000 in
set_option maxHeartbeats 2000000 in
theorem test_yes {a : Act} {w : World} {F : Four} {A : Option Addr} {n0 c k s l : Nat} {all : Value} (hfr : Fr 425 a (base (.slice A n0 c) F all s l k)) (hk : k < n0) (hk4 : k < 40) :
    (part [0] cL).wp Try.prog (Only fun a' w' => w' = w ∧ Fr 425 a' (base (.slice A n0 c) F all s l k)) a w := by
  obtain ⟨t, rfl⟩ := hfr.lit
  clear hfr
  change Code.wp _ _ _ ⟨#[.slice A n0 c, t 1, t 2, t 3, t 4, .pointer (some ⟨F.b, 0, none⟩), .pointer (some ⟨F.t, 0, none⟩), all, .int .i64 s, .int .i64 l, .map (some F.N), .func (.func 7) #[] #[], .int .i64 k, .int .i64 k, t 14, t 15, t 16, t 17, t 18, t 19, t 20, t 21, t 22, t 23, t 24, t 25, t 26, t 27, t 28, t 29, t 30, t 31, t 32, t 33, t 34, t 35, t 36, t 37, t 38, t 39, t 40, t 41, t 42, t 43, t 44, t 45, t 46, t 47, t 48, t 49, t 50, t 51, t 52, t 53, t 54, t 55, t 56, t 57, t 58, t 59, t 60, t 61, t 62, t 63, t 64, t 65, t 66, t 67, t 68, t 69, t 70, t 71, t 72, t 73, t 74, t 75, t 76, t 77, t 78, t 79, t 80, t 81, t 82, t 83, t 84, t 85, t 86, t 87, t 88, t 89, t 90, t 91, t 92, t 93, t 94, t 95, t 96, t 97, t 98, t 99, t 100, t 101, t 102, t 103, t 104, t 105, t 106, t 107, t 108, t 109, t 110, t 111, t 112, t 113, t 114, t 115, t 116, t 117, t 118, t 119, t 120, t 121, t 122, t 123, t 124, t 125, t 126, t 127, t 128, t 129, t 130, t 131, t 132, t 133, t 134, t 135, t 136, t 137, t 138, t 139, t 140, t 141, t 142, t 143, t 144, t 145, t 146, t 147, t 148, t 149, t 150, t 151, t 152, t 153, t 154, t 155, t 156, t 157, t 158, t 159, t 160, t 161, t 162, t 163, t 164, t 165, t 166, t 167, t 168, t 169, t 170, t 171, t 172, t 173, t 174, t 175, t 176, t 177, t 178, t 179, t 180, t 181, t 182, t 183, t 184, t 185, t 186, t 187, t 188, t 189, t 190, t 191, t 192, t 193, t 194, t 195, t 196, t 197, t 198, t 199, t 200, t 201, t 202, t 203, t 204, t 205, t 206, t 207, t 208, t 209, t 210, t 211, t 212, t 213, t 214, t 215, t 216, t 217, t 218, t 219, t 220, t 221, t 222, t 223, t 224, t 225, t 226, t 227, t 228, t 229, t 230, t 231, t 232, t 233, t 234, t 235, t 236, t 237, t 238, t 239, t 240, t 241, t 242, t 243, t 244, t 245, t 246, t 247, t 248, t 249, t 250, t 251, t 252, t 253, t 254, t 255, t 256, t 257, t 258, t 259, t 260, t 261, t 262, t 263, t 264, t 265, t 266, t 267, t 268, t 269, t 270, t 271, t 272, t 273, t 274, t 275, t 276, t 277, t 278, t 279, t 280, t 281, t 282, t 283, t 284, t 285, t 286, t 287, t 288, t 289, t 290, t 291, t 292, t 293, t 294, t 295, t 296, t 297, t 298, t 299, t 300, t 301, t 302, t 303, t 304, t 305, t 306, t 307, t 308, t 309, t 310, t 311, t 312, t 313, t 314, t 315, t 316, t 317, t 318, t 319, t 320, t 321, t 322, t 323, t 324, t 325, t 326, t 327, t 328, t 329, t 330, t 331, t 332, t 333, t 334, t 335, t 336, t 337, t 338, t 339, t 340, t 341, t 342, t 343, t 344, t 345, t 346, t 347, t 348, t 349, t 350, t 351, t 352, t 353, t 354, t 355, t 356, t 357, t 358, t 359, t 360, t 361, t 362, t 363, t 364, t 365, t 366, t 367, t 368, t 369, t 370, t 371, t 372, t 373, t 374, t 375, t 376, t 377, t 378, t 379, t 380, t 381, t 382, t 383, t 384, t 385, t 386, t 387, t 388, t 389, t 390, t 391, t 392, t 393, t 394, t 395, t 396, t 397, t 398, t 399, t 400, t 401, t 402, t 403, t 404, t 405, t 406, t 407, t 408, t 409, t 410, t 411, t 412, t 413, t 414, t 415, t 416, t 417, t 418, t 419, t 420, t 421, t 422, t 423, t 424], []⟩ _
  have d1 : decide ((k : Int) < (n0 : Int)) = true := by simp; omega
  have d2 : decide ((k : Int) < 40) = true := by simp; omega
  conv => arg 2; whnf
  go_wp2_with fail
  exact ⟨rfl, (fr_cons rfl (fr_cons rfl (fr_cons rfl (fr_cons rfl (fr_cons rfl (fr_cons rfl (fr_cons rfl (fr_cons rfl (fr_cons rfl (fr_cons rfl (fr_nil rfl)))))))))))⟩

/-- It leaves. -/
def Out0 (I : Act → World → Prop) : Exit → Act → World → Prop
  | .exit 0, a, w => I a w
  | _, _, _ => False

set_option maxRecDepth 100000 in
set_option maxHeartbeats 2000000 in
theorem test_no {a : Act} {w : World} {F : Four} {A : Option Addr} {n0 c k s l : Nat} {all : Value} (hfr : Fr 425 a (base (.slice A n0 c) F all s l k)) (hk : n0 ≤ k ∨ 40 ≤ k) :
    (part [0] cL).wp Try.prog (Out0 fun a' w' => w' = w ∧ Fr 425 a' (base (.slice A n0 c) F all s l k)) a w := by
  obtain ⟨t, rfl⟩ := hfr.lit
  clear hfr
  change Code.wp _ _ _ ⟨#[.slice A n0 c, t 1, t 2, t 3, t 4, .pointer (some ⟨F.b, 0, none⟩), .pointer (some ⟨F.t, 0, none⟩), all, .int .i64 s, .int .i64 l, .map (some F.N), .func (.func 7) #[] #[], .int .i64 k, .int .i64 k, t 14, t 15, t 16, t 17, t 18, t 19, t 20, t 21, t 22, t 23, t 24, t 25, t 26, t 27, t 28, t 29, t 30, t 31, t 32, t 33, t 34, t 35, t 36, t 37, t 38, t 39, t 40, t 41, t 42, t 43, t 44, t 45, t 46, t 47, t 48, t 49, t 50, t 51, t 52, t 53, t 54, t 55, t 56, t 57, t 58, t 59, t 60, t 61, t 62, t 63, t 64, t 65, t 66, t 67, t 68, t 69, t 70, t 71, t 72, t 73, t 74, t 75, t 76, t 77, t 78, t 79, t 80, t 81, t 82, t 83, t 84, t 85, t 86, t 87, t 88, t 89, t 90, t 91, t 92, t 93, t 94, t 95, t 96, t 97, t 98, t 99, t 100, t 101, t 102, t 103, t 104, t 105, t 106, t 107, t 108, t 109, t 110, t 111, t 112, t 113, t 114, t 115, t 116, t 117, t 118, t 119, t 120, t 121, t 122, t 123, t 124, t 125, t 126, t 127, t 128, t 129, t 130, t 131, t 132, t 133, t 134, t 135, t 136, t 137, t 138, t 139, t 140, t 141, t 142, t 143, t 144, t 145, t 146, t 147, t 148, t 149, t 150, t 151, t 152, t 153, t 154, t 155, t 156, t 157, t 158, t 159, t 160, t 161, t 162, t 163, t 164, t 165, t 166, t 167, t 168, t 169, t 170, t 171, t 172, t 173, t 174, t 175, t 176, t 177, t 178, t 179, t 180, t 181, t 182, t 183, t 184, t 185, t 186, t 187, t 188, t 189, t 190, t 191, t 192, t 193, t 194, t 195, t 196, t 197, t 198, t 199, t 200, t 201, t 202, t 203, t 204, t 205, t 206, t 207, t 208, t 209, t 210, t 211, t 212, t 213, t 214, t 215, t 216, t 217, t 218, t 219, t 220, t 221, t 222, t 223, t 224, t 225, t 226, t 227, t 228, t 229, t 230, t 231, t 232, t 233, t 234, t 235, t 236, t 237, t 238, t 239, t 240, t 241, t 242, t 243, t 244, t 245, t 246, t 247, t 248, t 249, t 250, t 251, t 252, t 253, t 254, t 255, t 256, t 257, t 258, t 259, t 260, t 261, t 262, t 263, t 264, t 265, t 266, t 267, t 268, t 269, t 270, t 271, t 272, t 273, t 274, t 275, t 276, t 277, t 278, t 279, t 280, t 281, t 282, t 283, t 284, t 285, t 286, t 287, t 288, t 289, t 290, t 291, t 292, t 293, t 294, t 295, t 296, t 297, t 298, t 299, t 300, t 301, t 302, t 303, t 304, t 305, t 306, t 307, t 308, t 309, t 310, t 311, t 312, t 313, t 314, t 315, t 316, t 317, t 318, t 319, t 320, t 321, t 322, t 323, t 324, t 325, t 326, t 327, t 328, t 329, t 330, t 331, t 332, t 333, t 334, t 335, t 336, t 337, t 338, t 339, t 340, t 341, t 342, t 343, t 344, t 345, t 346, t 347, t 348, t 349, t 350, t 351, t 352, t 353, t 354, t 355, t 356, t 357, t 358, t 359, t 360, t 361, t 362, t 363, t 364, t 365, t 366, t 367, t 368, t 369, t 370, t 371, t 372, t 373, t 374, t 375, t 376, t 377, t 378, t 379, t 380, t 381, t 382, t 383, t 384, t 385, t 386, t 387, t 388, t 389, t 390, t 391, t 392, t 393, t 394, t 395, t 396, t 397, t 398, t 399, t 400, t 401, t 402, t 403, t 404, t 405, t 406, t 407, t 408, t 409, t 410, t 411, t 412, t 413, t 414, t 415, t 416, t 417, t 418, t 419, t 420, t 421, t 422, t 423, t 424], []⟩ _
  by_cases h : k < n0
  · have h4 : 40 ≤ k := by omega
    have d2 : decide ((k : Int) < 40) = false := by simp; omega
    clear hk
    conv => arg 2; whnf
    go_wp2_with fail
    exact ⟨rfl, (fr_cons rfl (fr_cons rfl (fr_cons rfl (fr_cons rfl (fr_cons rfl (fr_cons rfl (fr_cons rfl (fr_cons rfl (fr_cons rfl (fr_cons rfl (fr_nil rfl)))))))))))⟩
  · have h4 : n0 ≤ k := by omega
    clear h hk
    conv => arg 2; whnf
    go_wp2_with fail
    exact ⟨rfl, (fr_cons rfl (fr_cons rfl (fr_cons rfl (fr_cons rfl (fr_cons rfl (fr_cons rfl (fr_cons rfl (fr_cons rfl (fr_cons rfl (fr_cons rfl (fr_nil rfl)))))))))))⟩

set_option maxRecDepth 100000 in
set_option maxHeartbeats 2000000 in
theorem count9 {a : Act} {w0 w : World} {F : Four} {sl : Value} {k : Nat} {S : St} (h : TailAt w0 F sl k S a w) (hk : k < 40) :
    (part [1, 1] cL).wp Try.prog (Only (HeadAt w0 F sl (k + 1) S)) a w := by
  obtain ⟨A1, c1, A2, c2, n, n2, m, hn, hn2, hm, hfr, hinv⟩ := h
  have Hinv := Lib.hid hinv
  have Hm := Lib.hid hm
  have Hn := Lib.hid hn
  have Hn2 := Lib.hid hn2
  clear hinv hm hn hn2
  obtain ⟨t, rfl⟩ := hfr.lit
  clear hfr
  change Code.wp _ _ _ ⟨#[sl, t 1, t 2, t 3, t 4, .pointer (some ⟨F.b, 0, none⟩), .pointer (some ⟨F.t, 0, none⟩), .slice A2 m c2, .int .i64 S.s, .int .i64 S.l, .map (some F.N), .func (.func 7) #[] #[], .int .i64 ((k + 1 : Nat) : Int), .int .i64 k, t 14, t 15, t 16, t 17, t 18, t 19, t 20, t 21, t 22, t 23, t 24, t 25, t 26, t 27, t 28, t 29, t 30, t 31, t 32, t 33, t 34, t 35, t 36, t 37, t 38, t 39, t 40, t 41, t 42, t 43, t 44, t 45, t 46, t 47, t 48, t 49, t 50, t 51, t 52, t 53, t 54, t 55, t 56, t 57, t 58, t 59, t 60, t 61, t 62, t 63, t 64, t 65, t 66, t 67, t 68, t 69, t 70, t 71, t 72, t 73, t 74, t 75, t 76, t 77, t 78, t 79, t 80, t 81, t 82, t 83, t 84, t 85, t 86, t 87, t 88, t 89, t 90, t 91, t 92, t 93, t 94, t 95, t 96, t 97, t 98, t 99, t 100, t 101, t 102, t 103, t 104, t 105, t 106, t 107, t 108, t 109, t 110, t 111, t 112, t 113, t 114, t 115, t 116, t 117, t 118, t 119, t 120, t 121, t 122, t 123, t 124, t 125, t 126, t 127, t 128, t 129, t 130, t 131, t 132, t 133, t 134, t 135, t 136, t 137, t 138, t 139, t 140, t 141, t 142, t 143, t 144, t 145, t 146, t 147, t 148, t 149, t 150, t 151, t 152, t 153, t 154, t 155, t 156, t 157, t 158, t 159, t 160, t 161, t 162, t 163, t 164, t 165, t 166, t 167, t 168, t 169, t 170, t 171, t 172, t 173, t 174, t 175, t 176, t 177, t 178, t 179, t 180, t 181, t 182, t 183, t 184, t 185, t 186, t 187, t 188, t 189, t 190, t 191, t 192, t 193, t 194, t 195, t 196, t 197, t 198, t 199, t 200, t 201, t 202, t 203, t 204, t 205, t 206, t 207, t 208, t 209, t 210, t 211, t 212, t 213, t 214, t 215, t 216, t 217, t 218, t 219, t 220, t 221, t 222, t 223, t 224, t 225, t 226, t 227, t 228, t 229, t 230, t 231, t 232, t 233, t 234, t 235, t 236, t 237, t 238, t 239, t 240, t 241, t 242, t 243, t 244, t 245, t 246, t 247, t 248, t 249, t 250, t 251, t 252, t 253, t 254, t 255, t 256, t 257, t 258, t 259, t 260, t 261, t 262, t 263, t 264, t 265, t 266, t 267, t 268, t 269, t 270, t 271, t 272, t 273, t 274, t 275, t 276, t 277, t 278, t 279, t 280, t 281, t 282, t 283, t 284, t 285, t 286, t 287, t 288, t 289, t 290, t 291, t 292, t 293, t 294, t 295, t 296, t 297, t 298, t 299, t 300, t 301, t 302, t 303, t 304, t 305, t 306, t 307, t 308, t 309, t 310, t 311, t 312, t 313, t 314, t 315, t 316, t 317, t 318, t 319, t 320, t 321, t 322, t 323, t 324, t 325, t 326, t 327, t 328, t 329, t 330, t 331, t 332, t 333, t 334, t 335, t 336, t 337, t 338, t 339, t 340, t 341, t 342, t 343, t 344, t 345, t 346, t 347, t 348, t 349, t 350, t 351, t 352, t 353, t 354, t 355, t 356, t 357, t 358, t 359, t 360, t 361, t 362, t 363, t 364, t 365, t 366, t 367, t 368, t 369, t 370, t 371, t 372, t 373, t 374, t 375, t 376, t 377, t 378, t 379, t 380, t 381, t 382, t 383, t 384, t 385, t 386, t 387, t 388, t 389, t 390, t 391, t 392, t 393, t 394, t 395, t 396, t 397, t 398, t 399, t 400, t 401, t 402, t 403, t 404, t 405, t 406, t 407, t 408, t 409, t 410, t 411, t 412, t 413, t 414, t 415, t 416, t 417, t 418, t 419, t 420, t 421, t 422, t 423, t 424], []⟩ _
  conv => arg 2; whnf
  go_wp2_with fail
  exact ⟨A1, c1, A2, c2, n, n2, m, by have := Hn.out; omega, by have := Hn2.out; omega, Hm.out, (fr_cons rfl (fr_cons rfl (fr_cons rfl (fr_cons rfl (fr_cons rfl (fr_cons rfl (fr_cons rfl (fr_cons rfl (fr_cons rfl (fr_cons rfl (fr_nil rfl))))))))))), Hinv.out⟩

theorem loop_round {a : Act} {w0 w : World} {F : Four} {A : Option Addr} {c k : Nat} (l : List Note5) (ha : Arg w0 A l) (h : HeadAt w0 F (.slice A l.length c) k (after l k) a w) (hk : k ≤ steps l) (Q : Exit → Act → World → Prop)
    (hn : k < steps l → ∀ a' w', HeadAt w0 F (.slice A l.length c) (k + 1) (after l (k + 1)) a' w' → Q .normal a' w') (hx : k = steps l → ∀ a', HeadAt w0 F (.slice A l.length c) k (after l k) a' w → Q (.exit 0) a' w) :
    cL.wp Try.prog Q a w := by
  have hle := steps_le l
  by_cases hks : k < steps l
  · have hkl : k < l.length := by omega
    have hk4 : k < 40 := by omega
    have hx' : l[k]? = some (noteAt l k) := by unfold noteAt; rw [List.getD_eq_getElem?_getD, List.getElem?_eq_getElem hkl]; rfl
    obtain ⟨b, off, rfl, c0, c1', c2', c3, c4⟩ := ha k _ hx'
    have hyes' : (part [0] cL).wp Try.prog (Only fun a' w' => HeadAt w0 F (.slice (some ⟨b, off, none⟩) l.length c) k (after l k) a' w') a w := by
      obtain ⟨A1, c1, A2, c2, n, n2, m, h1, h2, h3, hfr, hinv⟩ := h
      refine wp_mono (test_yes (w := w) hfr hkl hk4) fun e a' w' he => ?_
      cases e with
      | normal =>
        obtain ⟨rfl, he⟩ := he
        exact ⟨A1, c1, A2, c2, n, n2, m, h1, h2, h3, he, hinv⟩
      | _ => exact he.elim
    have hb : Below w0.heap.size w0 w := by obtain ⟨A1, c1, A2, c2, n, n2, m, _, _, _, _, hinv⟩ := h; exact hinv.below
    refine wp_seq (x := part [0] cL) (y := part [1] cL) (wp_mono hyes' fun e a1 w1 h1 => ?_)
    cases e with
    | normal =>
      have h1' : HeadAt w0 F (.slice (some ⟨b, off, none⟩) l.length c) k (after l k) a1 w1 := h1
      have hb1 : Below w0.heap.size w0 w1 := by obtain ⟨A1, c1, A2, c2, n, n2, m, _, _, _, _, hinv⟩ := h1'; exact hinv.below
      refine wp_seq (x := part [1, 0] cL) (y := part [1, 1] cL) ?_
      refine wp_block (id := 1) (c := cB) ?_
      refine wp_mono (whole h1' (after_ok l k (by omega)) hk4 hkl (cell_later hb1 c0) (cell_later hb1 c1') (cell_later hb1 c2') (cell_later hb1 c3) (cell_later hb1 c4)) fun e a2 w2 h2 => ?_
      cases e with
      | normal =>
        refine wp_mono (count9 h2 hk4) fun e a3 w3 h3 => ?_
        cases e with
        | normal => exact hn hks _ _ h3
        | _ => exact h3.elim
      | _ => exact h2.elim
    | _ => exact h1.elim
  · have hks' : k = steps l := by omega
    have hor : l.length ≤ k ∨ 40 ≤ k := by unfold steps at hks'; omega
    obtain ⟨A1, c1, A2, c2, n, n2, m, h1, h2, h3, hfr, hinv⟩ := h
    refine wp_seq (x := part [0] cL) (y := part [1] cL) (wp_mono (test_no (w := w) hfr hor) fun e a1 w1 he => ?_)
    cases e with
    | exit id =>
      cases id with
      | zero =>
        have he' : w1 = w ∧ Fr 425 a1 (base (.slice A l.length c) F (.slice A2 m c2) (after l k).s (after l k).l k) := he
        obtain ⟨rfl, he'⟩ := he'
        exact hx hks' _ ⟨A1, c1, A2, c2, n, n2, m, h1, h2, h3, he', hinv⟩
      | succ id => exact he.elim
    | _ => exact he.elim

end Go.Proofs.Ytbegeijofpgliab
