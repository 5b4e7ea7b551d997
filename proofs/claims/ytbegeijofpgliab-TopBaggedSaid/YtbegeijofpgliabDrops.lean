/-
  The walks of the doings: Drop, Double.
-/
import Derived.Test.YtbegeijofpgliabTakes
namespace Go.Proofs.Ytbegeijofpgliab
open Go.RowKit Go.Maps
set_option linter.unusedVariables false

set_option maxRecDepth 100000 in
set_option maxHeartbeats 2000000 in
/-- A note gets lost. -/
theorem drop3y {a : Act} (w0 w : World) (F : Four) (bx be bg bd k : Nat) (S : St) (A1 : Option Addr) (c1 : Nat) (A2 : Option Addr) (c2 n n2 : Nat) (sl : Value) (x : Note5) (nm : Bool) (j : Nat) (hfr : Fr 425 a [(0, sl), (5, .pointer (some ⟨F.b, 0, none⟩)), (6, .pointer (some ⟨F.t, 0, none⟩)), (7, .slice A2 S.L.length c2), (8, .int .i64 S.s), (9, .int .i64 S.l), (10, .map (some F.N)), (11, .func (.func 7) #[] #[]), (12, .int .i64 k), (13, .int .i64 k), (14, .pointer (some ⟨bx, 0, none⟩)), (15, .pointer (some ⟨be, 0, none⟩)), (16, .int .i64 j), (17, .bool true), (18, .int .i64 0), (19, .bool nm), (20, .pointer (some ⟨bd, 0, none⟩)), (100, .int .u8 3)]) (hinv : Inv w0 F w A1 c1 S.L S.s S.l A2 c2 S.L n S.T k n2 S.T) (hloc : Loc F A1 A2 w bx be bg bd x k) (hok : S.Ok k) (hk : k < 40) (hn : n ≤ 2 * k) (hn2 : n2 ≤ 2 * k) (hop : x.op = 3) (hj : x.q = j + 1) (hjl : j < S.L.length)  :
    (part [1, 1, 1, 1, 1, 1, 1, 1, 0, 1] cB).wp Try.prog (Only (Sw w0 F sl k (S.step k x) bx be bg bd x)) a w := by
  have hst : S.step k x = { S.off j with l := S.l + 1 } := by simp [St.step, hop, St.there, hj, Nat.succ_le_of_lt hjl]
  rw [hst]
  clear hst
  obtain ⟨t, rfl⟩ := hfr.lit
  change Code.wp _ _ _ ⟨#[sl, t 1, t 2, t 3, t 4, .pointer (some ⟨F.b, 0, none⟩), .pointer (some ⟨F.t, 0, none⟩), .slice A2 S.L.length c2, .int .i64 S.s, .int .i64 S.l, .map (some F.N), .func (.func 7) #[] #[], .int .i64 k, .int .i64 k, .pointer (some ⟨bx, 0, none⟩), .pointer (some ⟨be, 0, none⟩), .int .i64 j, .bool true, .int .i64 0, .bool nm, .pointer (some ⟨bd, 0, none⟩), t 21, t 22, t 23, t 24, t 25, t 26, t 27, t 28, t 29, t 30, t 31, t 32, t 33, t 34, t 35, t 36, t 37, t 38, t 39, t 40, t 41, t 42, t 43, t 44, t 45, t 46, t 47, t 48, t 49, t 50, t 51, t 52, t 53, t 54, t 55, t 56, t 57, t 58, t 59, t 60, t 61, t 62, t 63, t 64, t 65, t 66, t 67, t 68, t 69, t 70, t 71, t 72, t 73, t 74, t 75, t 76, t 77, t 78, t 79, t 80, t 81, t 82, t 83, t 84, t 85, t 86, t 87, t 88, t 89, t 90, t 91, t 92, t 93, t 94, t 95, t 96, t 97, t 98, t 99, .int .u8 3, t 101, t 102, t 103, t 104, t 105, t 106, t 107, t 108, t 109, t 110, t 111, t 112, t 113, t 114, t 115, t 116, t 117, t 118, t 119, t 120, t 121, t 122, t 123, t 124, t 125, t 126, t 127, t 128, t 129, t 130, t 131, t 132, t 133, t 134, t 135, t 136, t 137, t 138, t 139, t 140, t 141, t 142, t 143, t 144, t 145, t 146, t 147, t 148, t 149, t 150, t 151, t 152, t 153, t 154, t 155, t 156, t 157, t 158, t 159, t 160, t 161, t 162, t 163, t 164, t 165, t 166, t 167, t 168, t 169, t 170, t 171, t 172, t 173, t 174, t 175, t 176, t 177, t 178, t 179, t 180, t 181, t 182, t 183, t 184, t 185, t 186, t 187, t 188, t 189, t 190, t 191, t 192, t 193, t 194, t 195, t 196, t 197, t 198, t 199, t 200, t 201, t 202, t 203, t 204, t 205, t 206, t 207, t 208, t 209, t 210, t 211, t 212, t 213, t 214, t 215, t 216, t 217, t 218, t 219, t 220, t 221, t 222, t 223, t 224, t 225, t 226, t 227, t 228, t 229, t 230, t 231, t 232, t 233, t 234, t 235, t 236, t 237, t 238, t 239, t 240, t 241, t 242, t 243, t 244, t 245, t 246, t 247, t 248, t 249, t 250, t 251, t 252, t 253, t 254, t 255, t 256, t 257, t 258, t 259, t 260, t 261, t 262, t 263, t 264, t 265, t 266, t 267, t 268, t 269, t 270, t 271, t 272, t 273, t 274, t 275, t 276, t 277, t 278, t 279, t 280, t 281, t 282, t 283, t 284, t 285, t 286, t 287, t 288, t 289, t 290, t 291, t 292, t 293, t 294, t 295, t 296, t 297, t 298, t 299, t 300, t 301, t 302, t 303, t 304, t 305, t 306, t 307, t 308, t 309, t 310, t 311, t 312, t 313, t 314, t 315, t 316, t 317, t 318, t 319, t 320, t 321, t 322, t 323, t 324, t 325, t 326, t 327, t 328, t 329, t 330, t 331, t 332, t 333, t 334, t 335, t 336, t 337, t 338, t 339, t 340, t 341, t 342, t 343, t 344, t 345, t 346, t 347, t 348, t 349, t 350, t 351, t 352, t 353, t 354, t 355, t 356, t 357, t 358, t 359, t 360, t 361, t 362, t 363, t 364, t 365, t 366, t 367, t 368, t 369, t 370, t 371, t 372, t 373, t 374, t 375, t 376, t 377, t 378, t 379, t 380, t 381, t 382, t 383, t 384, t 385, t 386, t 387, t 388, t 389, t 390, t 391, t 392, t 393, t 394, t 395, t 396, t 397, t 398, t 399, t 400, t 401, t 402, t 403, t 404, t 405, t 406, t 407, t 408, t 409, t 410, t 411, t 412, t 413, t 414, t 415, t 416, t 417, t 418, t 419, t 420, t 421, t 422, t 423, t 424], []⟩ _
  have Hr : Hid (∀ a' w', Sw w0 F sl k ({ S.off j with l := S.l + 1 }) bx be bg bd x a' w' → Only (Sw w0 F sl k ({ S.off j with l := S.l + 1 }) bx be bg bd x) .normal a' w') := fun a' w' h => h
  have Hinv := Lib.hid hinv
  have Hloc := Lib.hid hloc
  have Hok := Lib.hid hok
  have Hop := Lib.hid hop
  have Hn := Lib.hid hn
  have Hn2 := Lib.hid hn2
  clear hfr hinv hloc hok hop hn hn2
  have hll : S.L.length ≤ k := Hok.out.len
  have hlo : S.l ≤ k := Hok.out.ll
  obtain ⟨gN, hA', hjc, hlc, hcm, A', c', wp, A'', c'', wq, m2, run1, run2a, run2b, hm2, hinv4, hturn4⟩ := Hinv.out.off (by omega) hjl
  subst hA'
  have hdrop := drop10 hinv4.bag (j : Int) (by omega) (by omega)
  have Hdrop := Lib.hid hdrop
  have Hinv4 := Lib.hid hinv4
  have Hloc4 := Lib.hid (Hloc.out.turn hturn4)
  have Run1 := Lib.hid run1
  have Hm2 := Lib.hid hm2
  clear hdrop hinv4 hturn4 run1 hm2
  unfold maxLen at hcm
  have hw : IntKind.i64.wrap ((j : Int) + 1) = ((j + 1 : Nat) : Int) := by rw [IntKind.wrap_i64]; omega
  by_cases hcc : c2 = j + 1
  · have Run2 := Lib.hid (run2a hcc)
    clear run2a run2b
    subst hcc
    have hl1 : S.L.length = j + 1 := by omega
    have hkk : (j : Int) ≤ (j : Int) + 1 := by omega
    have hi0 : (0 : Int) ≤ (j : Int) + 1 ∧ (j : Int) + 1 ≤ (S.L.length : Int) := by omega
    conv => arg 2; whnf
    go_wp2_with fail
    go_region_law (first | (refine step_append_at Run1.out (.tmp 201) (.tmp 204) (by rfl) (by rfl) (by rfl) (by rfl) (by rfl) ?_) | (refine step_append_at Run2.out (.tmp 205) (.tmp 209) (by rfl) (by rfl) (by rfl) (by rfl) (by rfl) ?_))
    all_goals
        go_wp2_with fail
        with_reducible refine Hdrop.out.mono ?_
        rintro e w2 (⟨-, -, rfl, A1', c1', hb, hkp, hf⟩ | ⟨h1 | h1, -, -⟩)
        · simp only [Int.toNat_natCast] at hb
          obtain ⟨hinv5, hturn5⟩ := Hinv4.out.bagT hb hkp hf
          have Hinv5 := Lib.hid hinv5
          have Hloc5 := Lib.hid (Hloc4.out.turn hturn5)
          clear hb hkp hf hinv5 hturn5
          go_wp2_with fail
          exact Hr.out _ _ ⟨A1', c1', A'', c'', n, n2, _, by have := Hn.out; omega, by have := Hn2.out; omega, Hm2.out, (fr_cons rfl (fr_cons rfl (fr_cons rfl (fr_cons rfl (fr_cons rfl (fr_cons rfl (fr_cons rfl (fr_cons rfl (fr_cons rfl (fr_cons rfl (fr_cons rfl (fr_cons rfl (fr_cons rfl (fr_nil rfl)))))))))))))), Hinv5.out, Hloc5.out⟩
        · exfalso; omega
        · exfalso; omega
  · have Run2 := Lib.hid (run2b hcc)
    clear run2a run2b
    have hkc : j ≤ c2 := by omega
    have hi0 : (0 : Int) ≤ (j : Int) + 1 ∧ (j : Int) + 1 ≤ (S.L.length : Int) := by omega
    conv => arg 2; whnf
    go_wp2_with fail
    go_region_law (first | (refine step_append_at Run1.out (.tmp 201) (.tmp 204) (by rfl) (by rfl) (by rfl) (by rfl) (by rfl) ?_) | (refine step_append_at Run2.out (.tmp 205) (.tmp 209) (by rfl) (by rfl) (by rfl) (by rfl) (by rfl) ?_))
    all_goals
        go_wp2_with fail
        with_reducible refine Hdrop.out.mono ?_
        rintro e w2 (⟨-, -, rfl, A1', c1', hb, hkp, hf⟩ | ⟨h1 | h1, -, -⟩)
        · simp only [Int.toNat_natCast] at hb
          obtain ⟨hinv5, hturn5⟩ := Hinv4.out.bagT hb hkp hf
          have Hinv5 := Lib.hid hinv5
          have Hloc5 := Lib.hid (Hloc4.out.turn hturn5)
          clear hb hkp hf hinv5 hturn5
          go_wp2_with fail
          exact Hr.out _ _ ⟨A1', c1', A'', c'', n, n2, _, by have := Hn.out; omega, by have := Hn2.out; omega, Hm2.out, (fr_cons rfl (fr_cons rfl (fr_cons rfl (fr_cons rfl (fr_cons rfl (fr_cons rfl (fr_cons rfl (fr_cons rfl (fr_cons rfl (fr_cons rfl (fr_cons rfl (fr_cons rfl (fr_cons rfl (fr_nil rfl)))))))))))))), Hinv5.out, Hloc5.out⟩
        · exfalso; omega
        · exfalso; omega

set_option maxRecDepth 100000 in
set_option maxHeartbeats 2000000 in
/-- No note gets lost. -/
theorem drop3n {a : Act} (w0 w : World) (F : Four) (bx be bg bd k : Nat) (S : St) (A1 : Option Addr) (c1 : Nat) (A2 : Option Addr) (c2 n n2 : Nat) (sl : Value) (x : Note5) (nm : Bool) (hfr : Fr 425 a [(0, sl), (5, .pointer (some ⟨F.b, 0, none⟩)), (6, .pointer (some ⟨F.t, 0, none⟩)), (7, .slice A2 S.L.length c2), (8, .int .i64 S.s), (9, .int .i64 S.l), (10, .map (some F.N)), (11, .func (.func 7) #[] #[]), (12, .int .i64 k), (13, .int .i64 k), (14, .pointer (some ⟨bx, 0, none⟩)), (15, .pointer (some ⟨be, 0, none⟩)), (16, .int .i64 ((x.q : Int) - 1)), (17, .bool false), (18, .int .i64 9), (19, .bool nm), (20, .pointer (some ⟨bd, 0, none⟩)), (100, .int .u8 3)]) (hinv : Inv w0 F w A1 c1 S.L S.s S.l A2 c2 S.L n S.T k n2 S.T) (hloc : Loc F A1 A2 w bx be bg bd x k) (hok : S.Ok k) (hk : k < 40) (hn : n ≤ 2 * k) (hn2 : n2 ≤ 2 * k) (hop : x.op = 3) (hth : x.q = 0 ∨ S.L.length < x.q)  :
    (part [1, 1, 1, 1, 1, 1, 1, 1, 0, 1] cB).wp Try.prog (Only (Sw w0 F sl k (S.step k x) bx be bg bd x)) a w := by
  have hst : S.step k x = S := by simp [St.step, hop, there_not hth]
  rw [hst]
  clear hst
  obtain ⟨t, rfl⟩ := hfr.lit
  change Code.wp _ _ _ ⟨#[sl, t 1, t 2, t 3, t 4, .pointer (some ⟨F.b, 0, none⟩), .pointer (some ⟨F.t, 0, none⟩), .slice A2 S.L.length c2, .int .i64 S.s, .int .i64 S.l, .map (some F.N), .func (.func 7) #[] #[], .int .i64 k, .int .i64 k, .pointer (some ⟨bx, 0, none⟩), .pointer (some ⟨be, 0, none⟩), .int .i64 ((x.q : Int) - 1), .bool false, .int .i64 9, .bool nm, .pointer (some ⟨bd, 0, none⟩), t 21, t 22, t 23, t 24, t 25, t 26, t 27, t 28, t 29, t 30, t 31, t 32, t 33, t 34, t 35, t 36, t 37, t 38, t 39, t 40, t 41, t 42, t 43, t 44, t 45, t 46, t 47, t 48, t 49, t 50, t 51, t 52, t 53, t 54, t 55, t 56, t 57, t 58, t 59, t 60, t 61, t 62, t 63, t 64, t 65, t 66, t 67, t 68, t 69, t 70, t 71, t 72, t 73, t 74, t 75, t 76, t 77, t 78, t 79, t 80, t 81, t 82, t 83, t 84, t 85, t 86, t 87, t 88, t 89, t 90, t 91, t 92, t 93, t 94, t 95, t 96, t 97, t 98, t 99, .int .u8 3, t 101, t 102, t 103, t 104, t 105, t 106, t 107, t 108, t 109, t 110, t 111, t 112, t 113, t 114, t 115, t 116, t 117, t 118, t 119, t 120, t 121, t 122, t 123, t 124, t 125, t 126, t 127, t 128, t 129, t 130, t 131, t 132, t 133, t 134, t 135, t 136, t 137, t 138, t 139, t 140, t 141, t 142, t 143, t 144, t 145, t 146, t 147, t 148, t 149, t 150, t 151, t 152, t 153, t 154, t 155, t 156, t 157, t 158, t 159, t 160, t 161, t 162, t 163, t 164, t 165, t 166, t 167, t 168, t 169, t 170, t 171, t 172, t 173, t 174, t 175, t 176, t 177, t 178, t 179, t 180, t 181, t 182, t 183, t 184, t 185, t 186, t 187, t 188, t 189, t 190, t 191, t 192, t 193, t 194, t 195, t 196, t 197, t 198, t 199, t 200, t 201, t 202, t 203, t 204, t 205, t 206, t 207, t 208, t 209, t 210, t 211, t 212, t 213, t 214, t 215, t 216, t 217, t 218, t 219, t 220, t 221, t 222, t 223, t 224, t 225, t 226, t 227, t 228, t 229, t 230, t 231, t 232, t 233, t 234, t 235, t 236, t 237, t 238, t 239, t 240, t 241, t 242, t 243, t 244, t 245, t 246, t 247, t 248, t 249, t 250, t 251, t 252, t 253, t 254, t 255, t 256, t 257, t 258, t 259, t 260, t 261, t 262, t 263, t 264, t 265, t 266, t 267, t 268, t 269, t 270, t 271, t 272, t 273, t 274, t 275, t 276, t 277, t 278, t 279, t 280, t 281, t 282, t 283, t 284, t 285, t 286, t 287, t 288, t 289, t 290, t 291, t 292, t 293, t 294, t 295, t 296, t 297, t 298, t 299, t 300, t 301, t 302, t 303, t 304, t 305, t 306, t 307, t 308, t 309, t 310, t 311, t 312, t 313, t 314, t 315, t 316, t 317, t 318, t 319, t 320, t 321, t 322, t 323, t 324, t 325, t 326, t 327, t 328, t 329, t 330, t 331, t 332, t 333, t 334, t 335, t 336, t 337, t 338, t 339, t 340, t 341, t 342, t 343, t 344, t 345, t 346, t 347, t 348, t 349, t 350, t 351, t 352, t 353, t 354, t 355, t 356, t 357, t 358, t 359, t 360, t 361, t 362, t 363, t 364, t 365, t 366, t 367, t 368, t 369, t 370, t 371, t 372, t 373, t 374, t 375, t 376, t 377, t 378, t 379, t 380, t 381, t 382, t 383, t 384, t 385, t 386, t 387, t 388, t 389, t 390, t 391, t 392, t 393, t 394, t 395, t 396, t 397, t 398, t 399, t 400, t 401, t 402, t 403, t 404, t 405, t 406, t 407, t 408, t 409, t 410, t 411, t 412, t 413, t 414, t 415, t 416, t 417, t 418, t 419, t 420, t 421, t 422, t 423, t 424], []⟩ _
  have Hr : Hid (∀ a' w', Sw w0 F sl k (S) bx be bg bd x a' w' → Only (Sw w0 F sl k (S) bx be bg bd x) .normal a' w') := fun a' w' h => h
  have Hinv := Lib.hid hinv
  have Hloc := Lib.hid hloc
  have Hok := Lib.hid hok
  have Hop := Lib.hid hop
  have Hn := Lib.hid hn
  have Hn2 := Lib.hid hn2
  clear hfr hinv hloc hok hop hn hn2
  have hll : S.L.length ≤ k := Hok.out.len
  have hlo : S.l ≤ k := Hok.out.ll
  have hdrop := drop10 Hinv.out.bag ((x.q : Int) - 1) (by omega) (by omega)
  have Hdrop := Lib.hid hdrop
  have Hth := Lib.hid hth
  clear hdrop hth
  conv => arg 2; whnf
  go_wp2_with fail
  with_reducible refine Hdrop.out.mono ?_
  rintro e w2 (⟨h0, h1, -, -⟩ | ⟨-, rfl, hb⟩)
  · exfalso
    rcases Hth.out with h | h <;> omega
  · have Hinv2 := Lib.hid (Hinv.out.later hb)
    have Hloc2 := Lib.hid (Hloc.out.turn (turn_below hb))
    clear hb
    go_wp2_with fail
    exact Hr.out _ _ ⟨A1, c1, A2, c2, n, n2, _, by have := Hn.out; omega, by have := Hn2.out; omega, rfl, (fr_cons rfl (fr_cons rfl (fr_cons rfl (fr_cons rfl (fr_cons rfl (fr_cons rfl (fr_cons rfl (fr_cons rfl (fr_cons rfl (fr_cons rfl (fr_cons rfl (fr_cons rfl (fr_cons rfl (fr_nil rfl)))))))))))))), Hinv2.out, Hloc2.out⟩

set_option maxRecDepth 100000 in
set_option maxHeartbeats 2000000 in
/-- A note comes twice. -/
theorem double4y {a : Act} (w0 w : World) (F : Four) (bx be bg bd k : Nat) (S : St) (A1 : Option Addr) (c1 : Nat) (A2 : Option Addr) (c2 n n2 : Nat) (sl : Value) (x : Note5) (nm : Bool) (j : Nat) (hfr : Fr 425 a [(0, sl), (5, .pointer (some ⟨F.b, 0, none⟩)), (6, .pointer (some ⟨F.t, 0, none⟩)), (7, .slice A2 S.L.length c2), (8, .int .i64 S.s), (9, .int .i64 S.l), (10, .map (some F.N)), (11, .func (.func 7) #[] #[]), (12, .int .i64 k), (13, .int .i64 k), (14, .pointer (some ⟨bx, 0, none⟩)), (15, .pointer (some ⟨be, 0, none⟩)), (16, .int .i64 j), (17, .bool true), (18, .int .i64 0), (19, .bool nm), (20, .pointer (some ⟨bd, 0, none⟩)), (100, .int .u8 4)]) (hinv : Inv w0 F w A1 c1 S.L S.s S.l A2 c2 S.L n S.T k n2 S.T) (hloc : Loc F A1 A2 w bx be bg bd x k) (hok : S.Ok k) (hk : k < 40) (hn : n ≤ 2 * k) (hn2 : n2 ≤ 2 * k) (hop : x.op = 4) (hj : x.q = j + 1) (hjl : j < S.L.length)  :
    (part [1, 1, 1, 1, 1, 1, 1, 1, 0, 1] cB).wp Try.prog (Only (Sw w0 F sl k (S.step k x) bx be bg bd x)) a w := by
  have hst : S.step k x = S.put (S.L.getD j ⟨0, 0, 0, 0⟩) := by simp [St.step, hop, St.there, hj, Nat.succ_le_of_lt hjl]
  rw [hst]
  clear hst
  obtain ⟨t, rfl⟩ := hfr.lit
  change Code.wp _ _ _ ⟨#[sl, t 1, t 2, t 3, t 4, .pointer (some ⟨F.b, 0, none⟩), .pointer (some ⟨F.t, 0, none⟩), .slice A2 S.L.length c2, .int .i64 S.s, .int .i64 S.l, .map (some F.N), .func (.func 7) #[] #[], .int .i64 k, .int .i64 k, .pointer (some ⟨bx, 0, none⟩), .pointer (some ⟨be, 0, none⟩), .int .i64 j, .bool true, .int .i64 0, .bool nm, .pointer (some ⟨bd, 0, none⟩), t 21, t 22, t 23, t 24, t 25, t 26, t 27, t 28, t 29, t 30, t 31, t 32, t 33, t 34, t 35, t 36, t 37, t 38, t 39, t 40, t 41, t 42, t 43, t 44, t 45, t 46, t 47, t 48, t 49, t 50, t 51, t 52, t 53, t 54, t 55, t 56, t 57, t 58, t 59, t 60, t 61, t 62, t 63, t 64, t 65, t 66, t 67, t 68, t 69, t 70, t 71, t 72, t 73, t 74, t 75, t 76, t 77, t 78, t 79, t 80, t 81, t 82, t 83, t 84, t 85, t 86, t 87, t 88, t 89, t 90, t 91, t 92, t 93, t 94, t 95, t 96, t 97, t 98, t 99, .int .u8 4, t 101, t 102, t 103, t 104, t 105, t 106, t 107, t 108, t 109, t 110, t 111, t 112, t 113, t 114, t 115, t 116, t 117, t 118, t 119, t 120, t 121, t 122, t 123, t 124, t 125, t 126, t 127, t 128, t 129, t 130, t 131, t 132, t 133, t 134, t 135, t 136, t 137, t 138, t 139, t 140, t 141, t 142, t 143, t 144, t 145, t 146, t 147, t 148, t 149, t 150, t 151, t 152, t 153, t 154, t 155, t 156, t 157, t 158, t 159, t 160, t 161, t 162, t 163, t 164, t 165, t 166, t 167, t 168, t 169, t 170, t 171, t 172, t 173, t 174, t 175, t 176, t 177, t 178, t 179, t 180, t 181, t 182, t 183, t 184, t 185, t 186, t 187, t 188, t 189, t 190, t 191, t 192, t 193, t 194, t 195, t 196, t 197, t 198, t 199, t 200, t 201, t 202, t 203, t 204, t 205, t 206, t 207, t 208, t 209, t 210, t 211, t 212, t 213, t 214, t 215, t 216, t 217, t 218, t 219, t 220, t 221, t 222, t 223, t 224, t 225, t 226, t 227, t 228, t 229, t 230, t 231, t 232, t 233, t 234, t 235, t 236, t 237, t 238, t 239, t 240, t 241, t 242, t 243, t 244, t 245, t 246, t 247, t 248, t 249, t 250, t 251, t 252, t 253, t 254, t 255, t 256, t 257, t 258, t 259, t 260, t 261, t 262, t 263, t 264, t 265, t 266, t 267, t 268, t 269, t 270, t 271, t 272, t 273, t 274, t 275, t 276, t 277, t 278, t 279, t 280, t 281, t 282, t 283, t 284, t 285, t 286, t 287, t 288, t 289, t 290, t 291, t 292, t 293, t 294, t 295, t 296, t 297, t 298, t 299, t 300, t 301, t 302, t 303, t 304, t 305, t 306, t 307, t 308, t 309, t 310, t 311, t 312, t 313, t 314, t 315, t 316, t 317, t 318, t 319, t 320, t 321, t 322, t 323, t 324, t 325, t 326, t 327, t 328, t 329, t 330, t 331, t 332, t 333, t 334, t 335, t 336, t 337, t 338, t 339, t 340, t 341, t 342, t 343, t 344, t 345, t 346, t 347, t 348, t 349, t 350, t 351, t 352, t 353, t 354, t 355, t 356, t 357, t 358, t 359, t 360, t 361, t 362, t 363, t 364, t 365, t 366, t 367, t 368, t 369, t 370, t 371, t 372, t 373, t 374, t 375, t 376, t 377, t 378, t 379, t 380, t 381, t 382, t 383, t 384, t 385, t 386, t 387, t 388, t 389, t 390, t 391, t 392, t 393, t 394, t 395, t 396, t 397, t 398, t 399, t 400, t 401, t 402, t 403, t 404, t 405, t 406, t 407, t 408, t 409, t 410, t 411, t 412, t 413, t 414, t 415, t 416, t 417, t 418, t 419, t 420, t 421, t 422, t 423, t 424], []⟩ _
  have Hr : Hid (∀ a' w', Sw w0 F sl k (S.put (S.L.getD j ⟨0, 0, 0, 0⟩)) bx be bg bd x a' w' → Only (Sw w0 F sl k (S.put (S.L.getD j ⟨0, 0, 0, 0⟩)) bx be bg bd x) .normal a' w') := fun a' w' h => h
  have Hinv := Lib.hid hinv
  have Hloc := Lib.hid hloc
  have Hok := Lib.hid hok
  have Hop := Lib.hid hop
  have Hn := Lib.hid hn
  have Hn2 := Lib.hid hn2
  clear hfr hinv hloc hok hop hn hn2
  have hll : S.L.length ≤ k := Hok.out.len
  have hsl : S.s ≤ k := Hok.out.sl
  obtain ⟨m, hm⟩ : ∃ m, S.L[j]? = some m := ⟨S.L[j], List.getElem?_eq_getElem hjl⟩
  have hgd : S.L.getD j ⟨0, 0, 0, 0⟩ = m := by rw [List.getD_eq_getElem?_getD, hm]; rfl
  obtain ⟨xs, hrow, hms⟩ := Hinv.out.all
  obtain ⟨gN, hA⟩ := hrow.some (by omega)
  obtain ⟨g4, c4, a0, a1, a2, hby4⟩ := hms.2 j m hm
  have b0 := hrow.cell hA _ _ a0
  have b1 := hrow.cell hA _ _ a1
  have b2 := hrow.cell hA _ _ a2
  subst hA
  obtain ⟨A2', c2', w', hrun, hinv1, hturn1⟩ := Hinv.out.snoc (by omega) c4 hby4
  have hdb := double11 hinv1.bag (j : Int) (by omega) (by omega) Hok.out.nm
  have Hrun := Lib.hid hrun
  have Hdb := Lib.hid hdb
  have Hinv1 := Lib.hid hinv1
  have Hloc1 := Lib.hid (Hloc.out.turn hturn1)
  have Hm := Lib.hid hm
  have Hgd := Lib.hid hgd
  clear hdb hinv1 hturn1 hrun hrow hms a0 a1 a2 hm hgd hby4
  conv => arg 2; whnf
  go_wp2_with (at_builtin; refine wpList_append_run rfl _ _ 32 rfl rfl rfl Hrun.out ?_)
  with_reducible refine Hdb.out.mono ?_
  rintro e w2 (⟨m', -, hm', rfl, A1', c1', hb, hkp, hf⟩ | ⟨h1 | h1, -, -⟩)
  · simp only [Int.toNat_natCast] at hm'
    have hmm := Hm.out
    rw [hm'] at hmm
    obtain rfl : m' = m := by simpa using hmm
    obtain ⟨hinv2, hturn2⟩ := Hinv1.out.bagT hb hkp hf
    have Hinv2 := Lib.hid hinv2
    have Hloc2 := Lib.hid (Hloc1.out.turn hturn2)
    clear hb hkp hf hinv2 hturn2 hm' hmm
    go_wp2_with fail
    refine Hr.out _ _ ?_
    rw [Hgd.out]
    exact ⟨A1', c1', A2', c2', n, n2, _, by have := Hn.out; omega, by have := Hn2.out; omega, by simp [St.put], (fr_cons rfl (fr_cons rfl (fr_cons rfl (fr_cons rfl (fr_cons rfl (fr_cons rfl (fr_cons rfl (fr_cons rfl (fr_cons rfl (fr_cons rfl (fr_cons rfl (fr_cons rfl (fr_cons rfl (fr_nil rfl)))))))))))))), Hinv2.out, Hloc2.out⟩
  · exfalso; omega
  · exfalso; omega

set_option maxRecDepth 100000 in
set_option maxHeartbeats 2000000 in
/-- No note comes twice. -/
theorem double4n {a : Act} (w0 w : World) (F : Four) (bx be bg bd k : Nat) (S : St) (A1 : Option Addr) (c1 : Nat) (A2 : Option Addr) (c2 n n2 : Nat) (sl : Value) (x : Note5) (nm : Bool) (hfr : Fr 425 a [(0, sl), (5, .pointer (some ⟨F.b, 0, none⟩)), (6, .pointer (some ⟨F.t, 0, none⟩)), (7, .slice A2 S.L.length c2), (8, .int .i64 S.s), (9, .int .i64 S.l), (10, .map (some F.N)), (11, .func (.func 7) #[] #[]), (12, .int .i64 k), (13, .int .i64 k), (14, .pointer (some ⟨bx, 0, none⟩)), (15, .pointer (some ⟨be, 0, none⟩)), (16, .int .i64 ((x.q : Int) - 1)), (17, .bool false), (18, .int .i64 9), (19, .bool nm), (20, .pointer (some ⟨bd, 0, none⟩)), (100, .int .u8 4)]) (hinv : Inv w0 F w A1 c1 S.L S.s S.l A2 c2 S.L n S.T k n2 S.T) (hloc : Loc F A1 A2 w bx be bg bd x k) (hok : S.Ok k) (hk : k < 40) (hn : n ≤ 2 * k) (hn2 : n2 ≤ 2 * k) (hop : x.op = 4) (hth : x.q = 0 ∨ S.L.length < x.q)  :
    (part [1, 1, 1, 1, 1, 1, 1, 1, 0, 1] cB).wp Try.prog (Only (Sw w0 F sl k (S.step k x) bx be bg bd x)) a w := by
  have hst : S.step k x = S := by simp [St.step, hop, there_not hth]
  rw [hst]
  clear hst
  obtain ⟨t, rfl⟩ := hfr.lit
  change Code.wp _ _ _ ⟨#[sl, t 1, t 2, t 3, t 4, .pointer (some ⟨F.b, 0, none⟩), .pointer (some ⟨F.t, 0, none⟩), .slice A2 S.L.length c2, .int .i64 S.s, .int .i64 S.l, .map (some F.N), .func (.func 7) #[] #[], .int .i64 k, .int .i64 k, .pointer (some ⟨bx, 0, none⟩), .pointer (some ⟨be, 0, none⟩), .int .i64 ((x.q : Int) - 1), .bool false, .int .i64 9, .bool nm, .pointer (some ⟨bd, 0, none⟩), t 21, t 22, t 23, t 24, t 25, t 26, t 27, t 28, t 29, t 30, t 31, t 32, t 33, t 34, t 35, t 36, t 37, t 38, t 39, t 40, t 41, t 42, t 43, t 44, t 45, t 46, t 47, t 48, t 49, t 50, t 51, t 52, t 53, t 54, t 55, t 56, t 57, t 58, t 59, t 60, t 61, t 62, t 63, t 64, t 65, t 66, t 67, t 68, t 69, t 70, t 71, t 72, t 73, t 74, t 75, t 76, t 77, t 78, t 79, t 80, t 81, t 82, t 83, t 84, t 85, t 86, t 87, t 88, t 89, t 90, t 91, t 92, t 93, t 94, t 95, t 96, t 97, t 98, t 99, .int .u8 4, t 101, t 102, t 103, t 104, t 105, t 106, t 107, t 108, t 109, t 110, t 111, t 112, t 113, t 114, t 115, t 116, t 117, t 118, t 119, t 120, t 121, t 122, t 123, t 124, t 125, t 126, t 127, t 128, t 129, t 130, t 131, t 132, t 133, t 134, t 135, t 136, t 137, t 138, t 139, t 140, t 141, t 142, t 143, t 144, t 145, t 146, t 147, t 148, t 149, t 150, t 151, t 152, t 153, t 154, t 155, t 156, t 157, t 158, t 159, t 160, t 161, t 162, t 163, t 164, t 165, t 166, t 167, t 168, t 169, t 170, t 171, t 172, t 173, t 174, t 175, t 176, t 177, t 178, t 179, t 180, t 181, t 182, t 183, t 184, t 185, t 186, t 187, t 188, t 189, t 190, t 191, t 192, t 193, t 194, t 195, t 196, t 197, t 198, t 199, t 200, t 201, t 202, t 203, t 204, t 205, t 206, t 207, t 208, t 209, t 210, t 211, t 212, t 213, t 214, t 215, t 216, t 217, t 218, t 219, t 220, t 221, t 222, t 223, t 224, t 225, t 226, t 227, t 228, t 229, t 230, t 231, t 232, t 233, t 234, t 235, t 236, t 237, t 238, t 239, t 240, t 241, t 242, t 243, t 244, t 245, t 246, t 247, t 248, t 249, t 250, t 251, t 252, t 253, t 254, t 255, t 256, t 257, t 258, t 259, t 260, t 261, t 262, t 263, t 264, t 265, t 266, t 267, t 268, t 269, t 270, t 271, t 272, t 273, t 274, t 275, t 276, t 277, t 278, t 279, t 280, t 281, t 282, t 283, t 284, t 285, t 286, t 287, t 288, t 289, t 290, t 291, t 292, t 293, t 294, t 295, t 296, t 297, t 298, t 299, t 300, t 301, t 302, t 303, t 304, t 305, t 306, t 307, t 308, t 309, t 310, t 311, t 312, t 313, t 314, t 315, t 316, t 317, t 318, t 319, t 320, t 321, t 322, t 323, t 324, t 325, t 326, t 327, t 328, t 329, t 330, t 331, t 332, t 333, t 334, t 335, t 336, t 337, t 338, t 339, t 340, t 341, t 342, t 343, t 344, t 345, t 346, t 347, t 348, t 349, t 350, t 351, t 352, t 353, t 354, t 355, t 356, t 357, t 358, t 359, t 360, t 361, t 362, t 363, t 364, t 365, t 366, t 367, t 368, t 369, t 370, t 371, t 372, t 373, t 374, t 375, t 376, t 377, t 378, t 379, t 380, t 381, t 382, t 383, t 384, t 385, t 386, t 387, t 388, t 389, t 390, t 391, t 392, t 393, t 394, t 395, t 396, t 397, t 398, t 399, t 400, t 401, t 402, t 403, t 404, t 405, t 406, t 407, t 408, t 409, t 410, t 411, t 412, t 413, t 414, t 415, t 416, t 417, t 418, t 419, t 420, t 421, t 422, t 423, t 424], []⟩ _
  have Hr : Hid (∀ a' w', Sw w0 F sl k (S) bx be bg bd x a' w' → Only (Sw w0 F sl k (S) bx be bg bd x) .normal a' w') := fun a' w' h => h
  have Hinv := Lib.hid hinv
  have Hloc := Lib.hid hloc
  have Hok := Lib.hid hok
  have Hop := Lib.hid hop
  have Hn := Lib.hid hn
  have Hn2 := Lib.hid hn2
  clear hfr hinv hloc hok hop hn hn2
  have hll : S.L.length ≤ k := Hok.out.len
  have hsl : S.s ≤ k := Hok.out.sl
  have hdb := double11 Hinv.out.bag ((x.q : Int) - 1) (by omega) (by omega) Hok.out.nm
  have Hdb := Lib.hid hdb
  have Hth := Lib.hid hth
  clear hdb hth
  conv => arg 2; whnf
  go_wp2_with fail
  with_reducible refine Hdb.out.mono ?_
  rintro e w2 (⟨m', h0, hm', -⟩ | ⟨-, rfl, hb⟩)
  · exfalso
    have hlt : ((x.q : Int) - 1).toNat < S.L.length := by
      rcases Nat.lt_or_ge ((x.q : Int) - 1).toNat S.L.length with h | h
      · exact h
      · rw [List.getElem?_eq_none h] at hm'; cases hm'
    rcases Hth.out with h | h <;> omega
  · have Hinv2 := Lib.hid (Hinv.out.later hb)
    have Hloc2 := Lib.hid (Hloc.out.turn (turn_below hb))
    clear hb
    go_wp2_with fail
    exact Hr.out _ _ ⟨A1, c1, A2, c2, n, n2, _, by have := Hn.out; omega, by have := Hn2.out; omega, rfl, (fr_cons rfl (fr_cons rfl (fr_cons rfl (fr_cons rfl (fr_cons rfl (fr_cons rfl (fr_cons rfl (fr_cons rfl (fr_cons rfl (fr_cons rfl (fr_cons rfl (fr_cons rfl (fr_cons rfl (fr_nil rfl)))))))))))))), Hinv2.out, Hloc2.out⟩

end Go.Proofs.Ytbegeijofpgliab
