/-
  The walk of bagged59.
-/
import Derived.Test.YtbegeijofpgliabMain
namespace Go.Proofs.Ytbegeijofpgliab
open Go.RowKit Go.Maps
set_option linter.unusedVariables false

/-- What the test answers. -/
def BagPost (l : List Note5) (w : World) (e : Ending) (w' : World) : Prop :=
  e = .returned (.tuple #[.int .i64 (after l (steps l)).L.length, .int .i64 (after l (steps l)).T.length, .bool true]) ∧ Below w.heap.size w w'

/-- What is left of the rounds. -/
def mu13 (a : Act) : Nat := 41 - (intOf (a.tmps.getD 13 undef)).toNat

theorem mu_of {a : Act} {w0 w : World} {F : Four} {sl : Value} {k : Nat} {S : St} (h : HeadAt w0 F sl k S a w) : mu13 a = 41 - k := by
  obtain ⟨A1, c1, A2, c2, n, n2, m, h1, h2, h3, hfr, hinv⟩ := h
  have h13 := hfr.at' (13, .int .i64 k) (by simp [base])
  simp only at h13
  have : a.tmps.getD 13 undef = .int .i64 k := by rw [Array.getD_eq_getD_getElem?, h13]; rfl
  unfold mu13
  rw [this]
  simp [intOf]

set_option maxRecDepth 100000 in
set_option maxHeartbeats 4000000 in
theorem bagged4 (l : List Note5) (A : Option Addr) (c : Nat) (w : World) (ha : Arg w A l) : Calls Try.prog 4 #[.slice A l.length c] w (BagPost l w) := by
  have Ha := Lib.hid ha
  clear ha
  have hmm := @run_makeMap Try.prog
  go_enter Try.func4, Try.ntmps4
  go_wp2_with fail
  with_reducible refine (new5 _).mono ?_
  rintro e w1 ⟨rfl, hw1⟩
  have hw1' := congrArg (fun w => w.heap.size) hw1
  simp at hw1'
  have Hw1 := Lib.hid hw1
  have Hs1 := Lib.hid hw1'
  clear hw1 hw1'
  go_wp2_with fail
  with_reducible refine (new6 _).mono ?_
  rintro e w2 ⟨rfl, hw2⟩
  have hw2' := congrArg (fun w => w.heap.size) hw2
  simp at hw2'
  rw [Hs1.out] at hw2'
  rw [Hs1.out]
  have Hw2 := Lib.hid hw2
  have Hs2 := Lib.hid hw2'
  clear hw2 hw2'
  go_wp2_with fail
  rw [Hs2.out]
  obtain ⟨w3, hw3⟩ : ∃ w3, w3 = w2.alloc (.map #[] 0) := ⟨_, rfl⟩
  rw [← hw3]
  have hinv := inv_start w
  rw [Hw2.out, Hw1.out] at hw3
  rw [show (w.alloc (.cells #[.bool true, .slice none 0 0, .int .i64 0, .int .i64 0] 58)).heap.size = w.heap.size + 1 from by simp] at hw3
  rw [← hw3] at hinv
  obtain ⟨F, hF⟩ : ∃ F : Four, F = ⟨w.heap.size, w.heap.size + 2, w.heap.size + 1, w.heap.size + 3⟩ := ⟨_, rfl⟩
  have hFb : w.heap.size = F.b := by rw [hF]
  have hFt : w.heap.size + 1 + 1 = F.t := by rw [hF]
  have hFN : w.heap.size + 3 = F.N := by rw [hF]
  rw [← hF] at hinv
  have Hinv := Lib.hid hinv
  clear hw3 Hw2 Hw1 Hs1 Hs2 hF hinv
  rw [hFN, hFt, hFb]
  clear hFN hFt hFb hmm
  go_wp2_with fail
  refine wp_loop (c := cL) (fun a w' => ∃ k, k ≤ steps l ∧ HeadAt w F (.slice A l.length c) k (after l k) a w') (fun a _ => mu13 a) ?_ ?_
  · exact ⟨0, Nat.zero_le _, none, 0, none, 0, 0, 0, 0, Nat.zero_le _, Nat.zero_le _, rfl, (fr_cons rfl (fr_cons rfl (fr_cons rfl (fr_cons rfl (fr_cons rfl (fr_cons rfl (fr_cons rfl (fr_cons rfl (fr_cons rfl (fr_cons rfl (fr_nil rfl))))))))))), Hinv.out⟩
  · rintro a w' ⟨k, hk, hh⟩
    refine loop_round l Ha.out hh hk _ ?_ ?_
    · intro hlt a' w'' h'
      refine ⟨⟨k + 1, hlt, h'⟩, ?_⟩
      have e1 := mu_of hh
      have e2 := mu_of h'
      have := steps_le l
      omega
    · rintro rfl a' ⟨A1, c1, A2, c2, n, n2, m, h1, h2, h3, hfr, hinv⟩
      have hlen := hinv.tags.len
      have Hb := Lib.hid hinv.below
      obtain ⟨t, rfl⟩ := hfr.lit
      have H3 := Lib.hid h3
      clear hfr hinv h1 h2 hh h3 hk
      rw [show lay 425 t (base (.slice A l.length c) F (.slice A2 m c2) (after l (steps l)).s (after l (steps l)).l (steps l)) = [.slice A l.length c, t 1, t 2, t 3, t 4, .pointer (some ⟨F.b, 0, none⟩), .pointer (some ⟨F.t, 0, none⟩), .slice A2 m c2, .int .i64 (after l (steps l)).s, .int .i64 (after l (steps l)).l, .map (some F.N), .func (.func 7) #[] #[], .int .i64 (steps l), .int .i64 (steps l), t 14, t 15, t 16, t 17, t 18, t 19, t 20, t 21, t 22, t 23, t 24, t 25, t 26, t 27, t 28, t 29, t 30, t 31, t 32, t 33, t 34, t 35, t 36, t 37, t 38, t 39, t 40, t 41, t 42, t 43, t 44, t 45, t 46, t 47, t 48, t 49, t 50, t 51, t 52, t 53, t 54, t 55, t 56, t 57, t 58, t 59, t 60, t 61, t 62, t 63, t 64, t 65, t 66, t 67, t 68, t 69, t 70, t 71, t 72, t 73, t 74, t 75, t 76, t 77, t 78, t 79, t 80, t 81, t 82, t 83, t 84, t 85, t 86, t 87, t 88, t 89, t 90, t 91, t 92, t 93, t 94, t 95, t 96, t 97, t 98, t 99, t 100, t 101, t 102, t 103, t 104, t 105, t 106, t 107, t 108, t 109, t 110, t 111, t 112, t 113, t 114, t 115, t 116, t 117, t 118, t 119, t 120, t 121, t 122, t 123, t 124, t 125, t 126, t 127, t 128, t 129, t 130, t 131, t 132, t 133, t 134, t 135, t 136, t 137, t 138, t 139, t 140, t 141, t 142, t 143, t 144, t 145, t 146, t 147, t 148, t 149, t 150, t 151, t 152, t 153, t 154, t 155, t 156, t 157, t 158, t 159, t 160, t 161, t 162, t 163, t 164, t 165, t 166, t 167, t 168, t 169, t 170, t 171, t 172, t 173, t 174, t 175, t 176, t 177, t 178, t 179, t 180, t 181, t 182, t 183, t 184, t 185, t 186, t 187, t 188, t 189, t 190, t 191, t 192, t 193, t 194, t 195, t 196, t 197, t 198, t 199, t 200, t 201, t 202, t 203, t 204, t 205, t 206, t 207, t 208, t 209, t 210, t 211, t 212, t 213, t 214, t 215, t 216, t 217, t 218, t 219, t 220, t 221, t 222, t 223, t 224, t 225, t 226, t 227, t 228, t 229, t 230, t 231, t 232, t 233, t 234, t 235, t 236, t 237, t 238, t 239, t 240, t 241, t 242, t 243, t 244, t 245, t 246, t 247, t 248, t 249, t 250, t 251, t 252, t 253, t 254, t 255, t 256, t 257, t 258, t 259, t 260, t 261, t 262, t 263, t 264, t 265, t 266, t 267, t 268, t 269, t 270, t 271, t 272, t 273, t 274, t 275, t 276, t 277, t 278, t 279, t 280, t 281, t 282, t 283, t 284, t 285, t 286, t 287, t 288, t 289, t 290, t 291, t 292, t 293, t 294, t 295, t 296, t 297, t 298, t 299, t 300, t 301, t 302, t 303, t 304, t 305, t 306, t 307, t 308, t 309, t 310, t 311, t 312, t 313, t 314, t 315, t 316, t 317, t 318, t 319, t 320, t 321, t 322, t 323, t 324, t 325, t 326, t 327, t 328, t 329, t 330, t 331, t 332, t 333, t 334, t 335, t 336, t 337, t 338, t 339, t 340, t 341, t 342, t 343, t 344, t 345, t 346, t 347, t 348, t 349, t 350, t 351, t 352, t 353, t 354, t 355, t 356, t 357, t 358, t 359, t 360, t 361, t 362, t 363, t 364, t 365, t 366, t 367, t 368, t 369, t 370, t 371, t 372, t 373, t 374, t 375, t 376, t 377, t 378, t 379, t 380, t 381, t 382, t 383, t 384, t 385, t 386, t 387, t 388, t 389, t 390, t 391, t 392, t 393, t 394, t 395, t 396, t 397, t 398, t 399, t 400, t 401, t 402, t 403, t 404, t 405, t 406, t 407, t 408, t 409, t 410, t 411, t 412, t 413, t 414, t 415, t 416, t 417, t 418, t 419, t 420, t 421, t 422, t 423, t 424] from rfl]
      go_wp2_with fail
      go_ret3
      exact ⟨by rw [H3.out]; rfl, Hb.out⟩
end Go.Proofs.Ytbegeijofpgliab
