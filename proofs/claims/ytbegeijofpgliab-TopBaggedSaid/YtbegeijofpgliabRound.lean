/-
  A round, whole.
-/
import Derived.Test.YtbegeijofpgliabSwitch
import Derived.Test.YtbegeijofpgliabAsk
import Derived.Test.YtbegeijofpgliabSet
import Derived.Test.YtbegeijofpgliabWho
import Derived.Test.YtbegeijofpgliabAll
namespace Go.Proofs.Ytbegeijofpgliab
open Go.RowKit Go.Maps

/-- What stands at a round's head. -/
def HeadAt (w0 : World) (F : Four) (sl : Value) (k : Nat) (S : St) (a : Act) (w : World) : Prop :=
  ∃ (A1 : Option Addr) (c1 : Nat) (A2 : Option Addr) (c2 n n2 m : Nat), n ≤ 2 * k ∧ n2 ≤ 2 * k ∧ m = S.L.length ∧ Fr 425 a (base sl F (.slice A2 m c2) S.s S.l k) ∧
    Inv w0 F w A1 c1 S.L S.s S.l A2 c2 S.L n S.T k n2 S.T

/-- What stands at a round's end. -/
def TailAt (w0 : World) (F : Four) (sl : Value) (k : Nat) (S : St) (a : Act) (w : World) : Prop :=
  ∃ (A1 : Option Addr) (c1 : Nat) (A2 : Option Addr) (c2 n n2 m : Nat), n ≤ 2 * k + 2 ∧ n2 ≤ 2 * k + 2 ∧ m = S.L.length ∧
    Fr 425 a [(0, sl), (5, .pointer (some ⟨F.b, 0, none⟩)), (6, .pointer (some ⟨F.t, 0, none⟩)), (7, .slice A2 m c2), (8, .int .i64 S.s), (9, .int .i64 S.l), (10, .map (some F.N)), (11, .func (.func 7) #[] #[]), (12, .int .i64 ((k + 1 : Nat) : Int)), (13, .int .i64 k)] ∧
    Inv w0 F w A1 c1 S.L S.s S.l A2 c2 S.L n S.T (k + 1) n2 S.T



set_option maxRecDepth 100000 in
/-- Behind the doing. -/
theorem tail {a : Act} {w0 w : World} {F : Four} {bx be bg bd k : Nat} {S : St} {sl : Value} {x : Note5} (h : Sw w0 F sl k S bx be bg bd x a w) (hok : S.Ok (k + 1)) (hk : k < 40) :
    (part [1, 1, 1, 1, 1, 1, 1, 1, 1] cB).wp Try.prog (Only (TailAt w0 F sl k S)) a w := by
  obtain ⟨A1, c1, A2, c2, n, n2, m, hn, hn2, hm, hfr, hinv, hloc⟩ := h
  have hml : m ≤ 100 := by have := hok.len; omega
  -- asked
  have h58 : (part [1, 1, 1, 1, 1, 1, 1, 1, 1, 0] cB).wp Try.prog (Only fun a' w' => w' = w ∧ Fr 425 a' [(0, sl), (5, .pointer (some ⟨F.b, 0, none⟩)), (6, .pointer (some ⟨F.t, 0, none⟩)), (7, .slice A2 m c2), (8, .int .i64 S.s), (9, .int .i64 S.l), (10, .map (some F.N)), (11, .func (.func 7) #[] #[]), (12, .int .i64 ((k + 1 : Nat) : Int)), (13, .int .i64 k), (14, .pointer (some ⟨bx, 0, none⟩)), (15, .pointer (some ⟨be, 0, none⟩)), (20, .pointer (some ⟨bd, 0, none⟩))]) a w := by
    clear hinv hloc hok hm hml hn hn2
    obtain ⟨t, rfl⟩ := hfr.lit
    clear hfr
    change Code.wp _ _ _ ⟨#[sl, t 1, t 2, t 3, t 4, .pointer (some ⟨F.b, 0, none⟩), .pointer (some ⟨F.t, 0, none⟩), .slice A2 m c2, .int .i64 S.s, .int .i64 S.l, .map (some F.N), .func (.func 7) #[] #[], .int .i64 k, .int .i64 k, .pointer (some ⟨bx, 0, none⟩), .pointer (some ⟨be, 0, none⟩), t 16, t 17, t 18, t 19, .pointer (some ⟨bd, 0, none⟩), t 21, t 22, t 23, t 24, t 25, t 26, t 27, t 28, t 29, t 30, t 31, t 32, t 33, t 34, t 35, t 36, t 37, t 38, t 39, t 40, t 41, t 42, t 43, t 44, t 45, t 46, t 47, t 48, t 49, t 50, t 51, t 52, t 53, t 54, t 55, t 56, t 57, t 58, t 59, t 60, t 61, t 62, t 63, t 64, t 65, t 66, t 67, t 68, t 69, t 70, t 71, t 72, t 73, t 74, t 75, t 76, t 77, t 78, t 79, t 80, t 81, t 82, t 83, t 84, t 85, t 86, t 87, t 88, t 89, t 90, t 91, t 92, t 93, t 94, t 95, t 96, t 97, t 98, t 99, t 100, t 101, t 102, t 103, t 104, t 105, t 106, t 107, t 108, t 109, t 110, t 111, t 112, t 113, t 114, t 115, t 116, t 117, t 118, t 119, t 120, t 121, t 122, t 123, t 124, t 125, t 126, t 127, t 128, t 129, t 130, t 131, t 132, t 133, t 134, t 135, t 136, t 137, t 138, t 139, t 140, t 141, t 142, t 143, t 144, t 145, t 146, t 147, t 148, t 149, t 150, t 151, t 152, t 153, t 154, t 155, t 156, t 157, t 158, t 159, t 160, t 161, t 162, t 163, t 164, t 165, t 166, t 167, t 168, t 169, t 170, t 171, t 172, t 173, t 174, t 175, t 176, t 177, t 178, t 179, t 180, t 181, t 182, t 183, t 184, t 185, t 186, t 187, t 188, t 189, t 190, t 191, t 192, t 193, t 194, t 195, t 196, t 197, t 198, t 199, t 200, t 201, t 202, t 203, t 204, t 205, t 206, t 207, t 208, t 209, t 210, t 211, t 212, t 213, t 214, t 215, t 216, t 217, t 218, t 219, t 220, t 221, t 222, t 223, t 224, t 225, t 226, t 227, t 228, t 229, t 230, t 231, t 232, t 233, t 234, t 235, t 236, t 237, t 238, t 239, t 240, t 241, t 242, t 243, t 244, t 245, t 246, t 247, t 248, t 249, t 250, t 251, t 252, t 253, t 254, t 255, t 256, t 257, t 258, t 259, t 260, t 261, t 262, t 263, t 264, t 265, t 266, t 267, t 268, t 269, t 270, t 271, t 272, t 273, t 274, t 275, t 276, t 277, t 278, t 279, t 280, t 281, t 282, t 283, t 284, t 285, t 286, t 287, t 288, t 289, t 290, t 291, t 292, t 293, t 294, t 295, t 296, t 297, t 298, t 299, t 300, t 301, t 302, t 303, t 304, t 305, t 306, t 307, t 308, t 309, t 310, t 311, t 312, t 313, t 314, t 315, t 316, t 317, t 318, t 319, t 320, t 321, t 322, t 323, t 324, t 325, t 326, t 327, t 328, t 329, t 330, t 331, t 332, t 333, t 334, t 335, t 336, t 337, t 338, t 339, t 340, t 341, t 342, t 343, t 344, t 345, t 346, t 347, t 348, t 349, t 350, t 351, t 352, t 353, t 354, t 355, t 356, t 357, t 358, t 359, t 360, t 361, t 362, t 363, t 364, t 365, t 366, t 367, t 368, t 369, t 370, t 371, t 372, t 373, t 374, t 375, t 376, t 377, t 378, t 379, t 380, t 381, t 382, t 383, t 384, t 385, t 386, t 387, t 388, t 389, t 390, t 391, t 392, t 393, t 394, t 395, t 396, t 397, t 398, t 399, t 400, t 401, t 402, t 403, t 404, t 405, t 406, t 407, t 408, t 409, t 410, t 411, t 412, t 413, t 414, t 415, t 416, t 417, t 418, t 419, t 420, t 421, t 422, t 423, t 424], []⟩ _
    have hwk : IntKind.i64.wrap ((k : Int) + 1) = (k : Int) + 1 := by rw [IntKind.wrap_i64]; omega
    conv => arg 2; whnf
    go_wp2_with fail
    exact ⟨rfl, (fr_cons rfl (fr_cons rfl (fr_cons rfl (fr_cons rfl (fr_cons rfl (fr_cons rfl (fr_cons rfl (fr_cons rfl (fr_cons rfl (fr_cons rfl (fr_cons rfl (fr_cons rfl (fr_cons rfl (fr_nil rfl))))))))))))))⟩
  refine wp_then (x := part [1, 1, 1, 1, 1, 1, 1, 1, 1, 0] cB) (y := part [1, 1, 1, 1, 1, 1, 1, 1, 1, 1] cB) h58 ?_
  rintro a1 w1 ⟨rfl, hfr1⟩
  -- the ledger
  have h59 : (part [1, 1, 1, 1, 1, 1, 1, 1, 1, 1, 0] cB).wp Try.prog (Only fun a' w' => Fr 425 a' [(0, sl), (5, .pointer (some ⟨F.b, 0, none⟩)), (6, .pointer (some ⟨F.t, 0, none⟩)), (7, .slice A2 m c2), (8, .int .i64 S.s), (9, .int .i64 S.l), (10, .map (some F.N)), (11, .func (.func 7) #[] #[]), (12, .int .i64 ((k + 1 : Nat) : Int)), (13, .int .i64 k), (14, .pointer (some ⟨bx, 0, none⟩))] ∧
      Inv w0 F w' A1 c1 S.L S.s S.l A2 c2 S.L n S.T (k + 1) n2 S.T ∧ Loc F A1 A2 w' bx be bg bd x k) a1 w1 := by
    rcases e1 : decide ((⟨x.f, x.t, x.d⟩ : Tg) ∈ S.T) with _ | _
    · rcases e2 : decide ((⟨x.f, 0, x.d⟩ : Tg) ∈ S.T) with _ | _
      · exact tail1n w0 w1 F bx be bg bd k S A1 c1 A2 c2 n n2 m sl x hfr1 hinv hloc hk e1 e2
      · exact tail1a w0 w1 F bx be bg bd k S A1 c1 A2 c2 n n2 m sl x hfr1 hinv hloc hk e1 e2
    · exact tail1y w0 w1 F bx be bg bd k S A1 c1 A2 c2 n n2 m sl x hfr1 hinv hloc hk _ e1 rfl
  refine wp_then (x := part [1, 1, 1, 1, 1, 1, 1, 1, 1, 1, 0] cB) (y := part [1, 1, 1, 1, 1, 1, 1, 1, 1, 1, 1] cB) h59 ?_
  clear hfr hfr1 h58 h59 hinv hloc
  rintro a2 w2 ⟨hfr2, hinv2, hloc2⟩
  obtain ⟨-, -, -, -, x1, x2, x3, x4⟩ := hloc2.cells
  refine set61 w2 F bx k m c2 S A2 sl x hfr2 hml x1 x2 x3 x4 _ fun K hK a3 V hfr3 => ?_
  refine wp_mono (loop63 w2 F bx k m c2 S A2 V sl hfr3 hm hml hinv2.all hok.nm) fun e a4 w4 h4 => ?_
  cases e with
  | normal =>
    obtain ⟨rfl, r, hr, hfr4⟩ := h4
    refine hK _ _ ?_
    refine wp_then (x := part [1, 1, 1, 1, 1, 1, 1, 1, 1, 1, 1, 1, 1, 1, 0] cB) (y := part [1, 1, 1, 1, 1, 1, 1, 1, 1, 1, 1, 1, 1, 1, 1] cB) (nums68 w0 w4 F k S A1 c1 A2 c2 n n2 m (k + 1) V r sl hfr4 hinv2 hok hk hm hr) ?_
    rintro a5 w5 ⟨hb5, hfr5⟩
    have hinv5 := hinv2.later hb5
    have h70 : (part [1, 1, 1, 1, 1, 1, 1, 1, 1, 1, 1, 1, 1, 1, 1, 0] cB).wp Try.prog (Only fun a' w' => w' = w5 ∧ Fr 425 a' [(0, sl), (5, .pointer (some ⟨F.b, 0, none⟩)), (6, .pointer (some ⟨F.t, 0, none⟩)), (7, .slice A2 m c2), (8, .int .i64 S.s), (9, .int .i64 S.l), (10, .map (some F.N)), (11, .func (.func 7) #[] #[]), (12, .int .i64 ((k + 1 : Nat) : Int)), (13, .int .i64 k), (27, .int .i64 (-1))]) a5 w5 := by
      clear hinv5 hinv2 hloc2 hok hb5 hr hfr4 hfr3 hfr2 hK x1 x2 x3 x4 hm hml hn hn2
      obtain ⟨t, rfl⟩ := hfr5.lit
      clear hfr5
      change Code.wp _ _ _ ⟨#[sl, t 1, t 2, t 3, t 4, .pointer (some ⟨F.b, 0, none⟩), .pointer (some ⟨F.t, 0, none⟩), .slice A2 m c2, .int .i64 S.s, .int .i64 S.l, .map (some F.N), .func (.func 7) #[] #[], .int .i64 ((k + 1 : Nat) : Int), .int .i64 k, t 14, t 15, t 16, t 17, t 18, t 19, t 20, t 21, t 22, t 23, t 24, t 25, t 26, t 27, t 28, t 29, t 30, t 31, t 32, t 33, t 34, t 35, t 36, t 37, t 38, t 39, t 40, t 41, t 42, t 43, t 44, t 45, t 46, t 47, t 48, t 49, t 50, t 51, t 52, t 53, t 54, t 55, t 56, t 57, t 58, t 59, t 60, t 61, t 62, t 63, t 64, t 65, t 66, t 67, t 68, t 69, t 70, t 71, t 72, t 73, t 74, t 75, t 76, t 77, t 78, t 79, t 80, t 81, t 82, t 83, t 84, t 85, t 86, t 87, t 88, t 89, t 90, t 91, t 92, t 93, t 94, t 95, t 96, t 97, t 98, t 99, t 100, t 101, t 102, t 103, t 104, t 105, t 106, t 107, t 108, t 109, t 110, t 111, t 112, t 113, t 114, t 115, t 116, t 117, t 118, t 119, t 120, t 121, t 122, t 123, t 124, t 125, t 126, t 127, t 128, t 129, t 130, t 131, t 132, t 133, t 134, t 135, t 136, t 137, t 138, t 139, t 140, t 141, t 142, t 143, t 144, t 145, t 146, t 147, t 148, t 149, t 150, t 151, t 152, t 153, t 154, t 155, t 156, t 157, t 158, t 159, t 160, t 161, t 162, t 163, t 164, t 165, t 166, t 167, t 168, t 169, t 170, t 171, t 172, t 173, t 174, t 175, t 176, t 177, t 178, t 179, t 180, t 181, t 182, t 183, t 184, t 185, t 186, t 187, t 188, t 189, t 190, t 191, t 192, t 193, t 194, t 195, t 196, t 197, t 198, t 199, t 200, t 201, t 202, t 203, t 204, t 205, t 206, t 207, t 208, t 209, t 210, t 211, t 212, t 213, t 214, t 215, t 216, t 217, t 218, t 219, t 220, t 221, t 222, t 223, t 224, t 225, t 226, t 227, t 228, t 229, t 230, t 231, t 232, t 233, t 234, t 235, t 236, t 237, t 238, t 239, t 240, t 241, t 242, t 243, t 244, t 245, t 246, t 247, t 248, t 249, t 250, t 251, t 252, t 253, t 254, t 255, t 256, t 257, t 258, t 259, t 260, t 261, t 262, t 263, t 264, t 265, t 266, t 267, t 268, t 269, t 270, t 271, t 272, t 273, t 274, t 275, t 276, t 277, t 278, t 279, t 280, t 281, t 282, t 283, t 284, t 285, t 286, t 287, t 288, t 289, t 290, t 291, t 292, t 293, t 294, t 295, t 296, t 297, t 298, t 299, t 300, t 301, t 302, t 303, t 304, t 305, t 306, t 307, t 308, t 309, t 310, t 311, t 312, t 313, t 314, t 315, t 316, t 317, t 318, t 319, t 320, t 321, t 322, t 323, t 324, t 325, t 326, t 327, t 328, t 329, t 330, t 331, t 332, t 333, t 334, t 335, t 336, t 337, t 338, t 339, t 340, t 341, t 342, t 343, t 344, t 345, t 346, t 347, t 348, t 349, t 350, t 351, t 352, t 353, t 354, t 355, t 356, t 357, t 358, t 359, t 360, t 361, t 362, t 363, t 364, t 365, t 366, t 367, t 368, t 369, t 370, t 371, t 372, t 373, t 374, t 375, t 376, t 377, t 378, t 379, t 380, t 381, t 382, t 383, t 384, t 385, t 386, t 387, t 388, t 389, t 390, t 391, t 392, t 393, t 394, t 395, t 396, t 397, t 398, t 399, t 400, t 401, t 402, t 403, t 404, t 405, t 406, t 407, t 408, t 409, t 410, t 411, t 412, t 413, t 414, t 415, t 416, t 417, t 418, t 419, t 420, t 421, t 422, t 423, t 424], []⟩ _
      conv => arg 2; whnf
      go_wp2_with fail
      exact ⟨rfl, (fr_cons rfl (fr_cons rfl (fr_cons rfl (fr_cons rfl (fr_cons rfl (fr_cons rfl (fr_cons rfl (fr_cons rfl (fr_cons rfl (fr_cons rfl (fr_cons rfl (fr_nil rfl))))))))))))⟩
    refine wp_then (x := part [1, 1, 1, 1, 1, 1, 1, 1, 1, 1, 1, 1, 1, 1, 1, 0] cB) (y := part [1, 1, 1, 1, 1, 1, 1, 1, 1, 1, 1, 1, 1, 1, 1, 1] cB) h70 ?_
    rintro a6 w6 ⟨rfl, hfr6⟩
    refine wp_mono (loop70 w0 w6 F k S A1 c1 A2 c2 n n2 m (k + 1) sl hfr6 hinv5 hm hml) fun e a7 w7 h7 => ?_
    cases e with
    | normal => exact ⟨A1, c1, A2, c2, n, n2, m, hn, hn2, hm, h7.2, hinv5.later h7.1⟩
    | _ => exact h7.elim
  | _ => exact h4.elim

set_option maxRecDepth 100000 in
/-- All that a round does. -/
theorem whole {a : Act} {w0 w : World} {F : Four} {b off n0 c k : Nat} {S : St} {x : Note5} (h : HeadAt w0 F (.slice (some ⟨b, off, none⟩) n0 c) k S a w) (hok : S.Ok k) (hk : k < 40) (hkn : k < n0)
    (c0 : w.cell? ⟨b, off + k * 5, none⟩ = some (.int .u8 x.kind.toNat)) (c1' : w.cell? ⟨b, off + k * 5 + 1, none⟩ = some (.int .u8 x.frm.toNat)) (c2' : w.cell? ⟨b, off + k * 5 + 2, none⟩ = some (.int .u8 x.to.toNat))
    (c3 : w.cell? ⟨b, off + k * 5 + 3, none⟩ = some (.int .u8 x.i.toNat)) (c4 : w.cell? ⟨b, off + k * 5 + 4, none⟩ = some (.int .u8 x.byte.toNat)) :
    cB.wp Try.prog (Only (TailAt w0 F (.slice (some ⟨b, off, none⟩) n0 c) k (S.step k x))) a w := by
  obtain ⟨A1, c1, A2, c2, n, n2, m, hn, hn2, hm, hfr, hinv⟩ := h
  refine seg1 w F b off n0 c k S.s S.l (.slice A2 m c2) x hfr hkn hk c0 c1' c2' c3 c4 _ fun a1 hfr1 => ?_
  clear hfr c0 c1' c2' c3 c4
  obtain ⟨wa, ha⟩ : ∃ wa, wa = w.alloc (.cells #[.int .u8 x.kind.toNat, .int .u8 x.frm.toNat, .int .u8 x.to.toNat, .int .u8 x.i.toNat, .int .u8 x.byte.toNat] 24) := ⟨_, rfl⟩
  obtain ⟨wb, hb⟩ : ∃ wb, wb = wa.alloc (.cells #[.int .u8 x.byte.toNat, .int .u8 k] 5) := ⟨_, rfl⟩
  obtain ⟨wc, hc⟩ : ∃ wc, wc = wb.alloc (.cells #[.int .i64 (x.f : Int), .int .i64 (x.t : Int), .slice (some ⟨w.heap.size + 1, 0, none⟩) 2 2] 36) := ⟨_, rfl⟩
  rw [← ha, ← hb, ← hc]
  have sa : wa.heap.size = w.heap.size + 1 := by rw [ha]; simp
  have sb : wb.heap.size = w.heap.size + 2 := by rw [hb]; simp [sa]
  have sc : wc.heap.size = w.heap.size + 3 := by rw [hc]; simp [sb]
  have ba : Below w.heap.size w wa := by rw [ha]; exact (Below.refl _ w).alloc (Nat.le_refl _) _
  have bb : Below wa.heap.size wa wb := by rw [hb]; exact (Below.refl _ wa).alloc (Nat.le_refl _) _
  have bc : Below wb.heap.size wb wc := by rw [hc]; exact (Below.refl _ wb).alloc (Nat.le_refl _) _
  have e0 : wc.heap[w.heap.size]? = some (.cells #[.int .u8 x.kind.toNat, .int .u8 x.frm.toNat, .int .u8 x.to.toNat, .int .u8 x.i.toNat, .int .u8 x.byte.toNat] 24 (0, 0)) := by
    rw [bc.block _ (by omega), bb.block _ (by omega), ha]; exact heap_alloc_new w _
  have e1 : wc.heap[w.heap.size + 1]? = some (.cells #[.int .u8 x.byte.toNat, .int .u8 k] 5 (0, 0)) := by
    rw [bc.block _ (by omega), hb, ← sa]; exact heap_alloc_new wa _
  have e2 : wc.heap[w.heap.size + 2]? = some (.cells #[.int .i64 (x.f : Int), .int .i64 (x.t : Int), .slice (some ⟨w.heap.size + 1, 0, none⟩) 2 2] 36 (0, 0)) := by
    rw [hc, ← sb]; exact heap_alloc_new wb _
  have hbc : Below w.heap.size w wc := (ba.trans (bb.mono (by omega))).trans (bc.mono (by omega))
  have hinvc := hinv.later hbc
  have ox : Out F A1 A2 wc w.heap.size := hinv.new (Nat.le_refl _) (by omega)
  have og : Out F A1 A2 wc (w.heap.size + 1) := hinv.new (by omega) (by omega)
  have oe : Out F A1 A2 wc (w.heap.size + 2) := hinv.new (by omega) (by omega)
  have x0 := cell_of_row wc w.heap.size 0 _ _ _ e0
  have x4 := cell_of_row wc w.heap.size 4 _ _ _ e0
  have y0 := cell_of_row wc (w.heap.size + 2) 0 _ _ _ e2
  have y1 := cell_of_row wc (w.heap.size + 2) 1 _ _ _ e2
  simp only [List.getElem?_toArray, List.getElem?_cons_zero, List.getElem?_cons_succ] at x0 x4 y0 y1
  have hbyt : Byt wc (w.heap.size + 1) (x.msg k) := ⟨_, e1, rfl, rfl⟩
  clear ha hb hc sa sb ba bb bc e1
  -- is there a note
  have step2 : ∀ (Q : Exit → Act → World → Prop), (∀ a', Fr 425 a' [(0, .slice (some ⟨b, off, none⟩) n0 c), (5, .pointer (some ⟨F.b, 0, none⟩)), (6, .pointer (some ⟨F.t, 0, none⟩)), (7, .slice A2 m c2), (8, .int .i64 S.s), (9, .int .i64 S.l), (10, .map (some F.N)), (11, .func (.func 7) #[] #[]), (12, .int .i64 k), (13, .int .i64 k), (14, .pointer (some ⟨w.heap.size, 0, none⟩)), (15, .pointer (some ⟨w.heap.size + 2, 0, none⟩)), (16, .int .i64 ((x.q : Int) - 1)), (17, .bool (S.there x)), (18, .int .i64 (if S.there x = true then 0 else 9))] →
      (part [1, 1, 1, 1, 1] cB).wp Try.prog Q a' wc) → (part [1, 1, 1] cB).wp Try.prog Q a1 wc := by
    intro Q hQ
    by_cases h0 : x.q = 0
    · have ht : S.there x = false := there_not (.inl h0)
      rw [ht] at hQ
      exact seg2z wc F w.heap.size (w.heap.size + 2) k S.s S.l m c2 A2 _ x hfr1 h0 Q hQ
    · by_cases h1 : x.q ≤ m
      · have ht : S.there x = true := by
          unfold St.there
          rw [Bool.and_eq_true, decide_eq_true_eq, decide_eq_true_eq]
          omega
        rw [ht] at hQ
        exact seg2y wc F w.heap.size (w.heap.size + 2) k S.s S.l m c2 A2 _ x hfr1 (by omega) h1 Q hQ
      · have ht : S.there x = false := there_not (.inr (by omega))
        rw [ht] at hQ
        exact seg2n wc F w.heap.size (w.heap.size + 2) k S.s S.l m c2 A2 _ x hfr1 (by omega) (by omega) Q hQ
  refine step2 _ fun a2 hfr2 => ?_
  clear step2 hfr1
  -- are the names names
  have step3 : ∀ (Q : Exit → Act → World → Prop), (∀ a', Fr 425 a' [(0, .slice (some ⟨b, off, none⟩) n0 c), (5, .pointer (some ⟨F.b, 0, none⟩)), (6, .pointer (some ⟨F.t, 0, none⟩)), (7, .slice A2 m c2), (8, .int .i64 S.s), (9, .int .i64 S.l), (10, .map (some F.N)), (11, .func (.func 7) #[] #[]), (12, .int .i64 k), (13, .int .i64 k), (14, .pointer (some ⟨w.heap.size, 0, none⟩)), (15, .pointer (some ⟨w.heap.size + 2, 0, none⟩)), (16, .int .i64 ((x.q : Int) - 1)), (17, .bool (S.there x)), (18, .int .i64 (if S.there x = true then 0 else 9)), (19, .bool x.names)] →
      (part [1, 1, 1, 1, 1, 1] cB).wp Try.prog Q a' wc) → (part [1, 1, 1, 1, 1] cB).wp Try.prog Q a2 wc := by
    intro Q hQ
    have hnm : ∀ m, named m = decide (1 ≤ m ∧ m ≤ 34) := fun m => by unfold named; rw [Bool.decide_and]
    rcases (by omega : x.f = 0 ∨ 34 < x.f ∨ (1 ≤ x.f ∧ x.f ≤ 34 ∧ x.t = 0) ∨ (1 ≤ x.f ∧ x.f ≤ 34 ∧ 34 < x.t) ∨ (1 ≤ x.f ∧ x.f ≤ 34 ∧ 1 ≤ x.t ∧ x.t ≤ 34)) with h | h | h | h | h
    · rw [show x.names = false from by unfold Note5.names; rw [hnm, hnm, decide_eq_false (by omega)]; rfl] at hQ
      exact seg3a wc F _ _ k S.s S.l _ _ _ _ x hfr2 y0 h Q hQ
    · rw [show x.names = false from by unfold Note5.names; rw [hnm, hnm, decide_eq_false (by omega)]; rfl] at hQ
      exact seg3b wc F _ _ k S.s S.l _ _ _ _ x hfr2 y0 h Q hQ
    · rw [show x.names = false from by unfold Note5.names; rw [hnm, hnm, Bool.and_comm, decide_eq_false (p := 1 ≤ x.t ∧ x.t ≤ 34) (by omega)]; rfl] at hQ
      exact seg3c wc F _ _ k S.s S.l _ _ _ _ x hfr2 y0 y1 h Q hQ
    · rw [show x.names = false from by unfold Note5.names; rw [hnm, hnm, Bool.and_comm, decide_eq_false (p := 1 ≤ x.t ∧ x.t ≤ 34) (by omega)]; rfl] at hQ
      exact seg3d wc F _ _ k S.s S.l _ _ _ _ x hfr2 y0 y1 h Q hQ
    · rw [show x.names = true from by unfold Note5.names; rw [hnm, hnm, decide_eq_true (by omega), decide_eq_true (by omega)]; rfl] at hQ
      exact seg3e wc F _ _ k S.s S.l _ _ _ _ x hfr2 y0 y1 h Q hQ
  refine step3 _ fun a3 hfr3 => ?_
  clear step3 hfr2
  refine seg4 wc F w.heap.size (w.heap.size + 2) k S.s S.l (S.there x) x.names _ _ _ x hfr3 x0 x4 _ fun K hK a4 hfr4 => ?_
  have bd : Below wc.heap.size wc (wc.alloc (.cells (digA x.d) 40)) := (Below.refl _ wc).alloc (Nat.le_refl _) _
  have hd : DigAt (wc.alloc (.cells (digA x.d) 40)) wc.heap.size x.d := heap_alloc_new wc _
  have hinvd := hinvc.later bd
  have td : Turn F A1 A2 wc A1 A2 (wc.alloc (.cells (digA x.d) 40)) := turn_below bd
  have hloc : Loc F A1 A2 (wc.alloc (.cells (digA x.d) 40)) w.heap.size (w.heap.size + 2) (w.heap.size + 1) wc.heap.size x k :=
    ⟨(td _ ox).1.trans e0, (td _ oe).1.trans e2, hbyt.later (td _ og).1, hd, (td _ ox).2, (td _ oe).2, (td _ og).2, hinvc.new (Nat.le_refl _) (by simp)⟩
  rw [hm] at hfr4
  refine wp_mono (switch w0 _ F _ _ _ _ k S A1 c1 A2 c2 n n2 _ x hfr4 hinvd hloc hok hk hn hn2) fun e a5 w5 h5 => ?_
  cases e with
  | normal => exact hK _ _ (tail h5 (step_ok hok hk x) hk)
  | _ => exact h5.elim

end Go.Proofs.Ytbegeijofpgliab
