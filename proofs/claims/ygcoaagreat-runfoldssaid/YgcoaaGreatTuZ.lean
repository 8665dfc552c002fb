/-
  Two runs of one text: what the law takes for granted, over this program; the functions told of otherwise are left open.
-/
import Derived.Test.YgcoaaGreatTu0
import Derived.Test.YgcoaaGreatTu1
import Derived.Test.YgcoaaGreatTu2
import Derived.Test.YgcoaaGreatTu3
set_option maxRecDepth 20000
namespace Go.Proofs.Oaag.Twn
open Go Go.Tw
def toldL : List Nat := []
def okL : List Nat := ([23, 30, 36, 45, 58, 62, 66, 70, 78, 89, 104, 109, 113, 117, 123, 127, 132, 137, 141, 146] : List Nat) ++ ([159, 164, 170, 178, 182, 186, 190, 195, 203, 207, 211, 217, 221, 225, 229, 233, 237, 242, 246, 250] : List Nat) ++ ([256, 260, 264, 288, 303, 307, 311, 315, 319, 323, 328, 332, 336, 340, 344, 350, 354, 358, 362, 367] : List Nat) ++ ([371, 375, 397, 401, 405, 409, 413, 417, 437] : List Nat) ++ ([25, 31, 37, 51, 59, 63, 67, 73, 80, 90, 105, 110, 114, 120, 124, 128, 134, 138, 142, 148] : List Nat) ++ ([160, 165, 171, 179, 183, 187, 191, 196, 204, 208, 212, 218, 222, 226, 230, 234, 238, 243, 247, 251] : List Nat) ++ ([257, 261, 270, 292, 304, 308, 312, 316, 320, 325, 329, 333, 337, 341, 347, 351, 355, 359, 363, 368] : List Nat) ++ ([372, 376, 398, 402, 406, 410, 414, 418, 438] : List Nat) ++ ([26, 33, 39, 52, 60, 64, 68, 74, 85, 100, 106, 111, 115, 121, 125, 129, 135, 139, 143, 156] : List Nat) ++ ([162, 167, 176, 180, 184, 188, 192, 197, 205, 209, 213, 219, 223, 227, 231, 235, 240, 244, 248, 252] : List Nat) ++ ([258, 262, 271, 301, 305, 309, 313, 317, 321, 326, 330, 334, 338, 342, 348, 352, 356, 360, 364, 369] : List Nat) ++ ([373, 377, 399, 403, 407, 411, 415, 419, 439] : List Nat) ++ ([27, 35, 42, 56, 61, 65, 69, 77, 88, 101, 108, 112, 116, 122, 126, 130, 136, 140, 144, 158] : List Nat) ++ ([163, 168, 177, 181, 185, 189, 194, 202, 206, 210, 214, 220, 224, 228, 232, 236, 241, 245, 249, 253] : List Nat) ++ ([259, 263, 272, 302, 306, 310, 314, 318, 322, 327, 331, 335, 339, 343, 349, 353, 357, 361, 365, 370] : List Nat) ++ ([374, 378, 400, 404, 408, 412, 416, 420] : List Nat)
theorem okL_ok : ∀ g ∈ okL, ∃ fn c, OkFn (V Oaag.prog) (drAll (V Oaag.prog)) g fn c := by
  intro g hg
  unfold okL at hg
  rcases List.mem_append.1 hg with hg | hg
  case inr => exact ok3_3 g hg
  rcases List.mem_append.1 hg with hg | hg
  case inr => exact ok3_2 g hg
  rcases List.mem_append.1 hg with hg | hg
  case inr => exact ok3_1 g hg
  rcases List.mem_append.1 hg with hg | hg
  case inr => exact ok3_0 g hg
  rcases List.mem_append.1 hg with hg | hg
  case inr => exact ok2_3 g hg
  rcases List.mem_append.1 hg with hg | hg
  case inr => exact ok2_2 g hg
  rcases List.mem_append.1 hg with hg | hg
  case inr => exact ok2_1 g hg
  rcases List.mem_append.1 hg with hg | hg
  case inr => exact ok2_0 g hg
  rcases List.mem_append.1 hg with hg | hg
  case inr => exact ok1_3 g hg
  rcases List.mem_append.1 hg with hg | hg
  case inr => exact ok1_2 g hg
  rcases List.mem_append.1 hg with hg | hg
  case inr => exact ok1_1 g hg
  rcases List.mem_append.1 hg with hg | hg
  case inr => exact ok1_0 g hg
  rcases List.mem_append.1 hg with hg | hg
  case inr => exact ok0_3 g hg
  rcases List.mem_append.1 hg with hg | hg
  case inr => exact ok0_2 g hg
  rcases List.mem_append.1 hg with hg | hg
  case inr => exact ok0_1 g hg
  exact ok0_0 g hg

set_option exponentiation.threshold 600 in
theorem F_mem {g : Nat} (h : Nat.testBit fM g = true) : g ∈ okL ∨ g ∈ toldL := by
  have hall : ((List.range 500).all fun g => !Nat.testBit fM g || okL.contains g || toldL.contains g) = true := by kernel_rfl
  have hlt : fM < 2 ^ 500 := by
    have : Nat.blt fM (2 ^ 500) = true := by kernel_rfl
    exact Nat.le_of_ble_eq_true this
  by_cases hg : g < 500
  · rw [List.all_eq_true] at hall
    have := hall g (List.mem_range.2 hg)
    rw [h] at this
    simp only [Bool.not_true, Bool.false_or, Bool.or_eq_true, List.contains_iff_mem] at this
    exact this
  · rw [Nat.testBit_lt_two_pow (Nat.lt_of_lt_of_le hlt (Nat.pow_le_pow_right (by omega) (by omega)))] at h
    cases h

theorem glob : (V Oaag.prog).P.globals.size ≤ 1 := by
  have : Nat.ble Oaag.prog.globals.size 1 = true := by kernel_rfl
  exact Nat.le_of_ble_eq_true this

theorem glob' : Oaag.prog.globals.size ≤ 1 := glob
theorem e23 : EqOk Oaag.prog 23 := eqOk_flat glob' (by kernel_rfl)
theorem e47 : EqOk Oaag.prog 47 := eqOk_flat glob' (by kernel_rfl)
theorem e86 : EqOk Oaag.prog 86 := eqOk_flat glob' (by kernel_rfl)
theorem e198 : EqOk Oaag.prog 198 := eqOk_flat glob' (by kernel_rfl)
theorem eqs : ∀ t, (V Oaag.prog).E t = true → EqOk (V Oaag.prog).P t := by
  intro t h
  have h' : (Nat.beq t 23 || Nat.beq t 47 || Nat.beq t 86 || Nat.beq t 198) = true := h
  simp only [Bool.or_eq_true] at h'
  rcases h' with ((e | e) | e) | e <;> (have e := Nat.eq_of_beq_eq_true e; subst e)
  · exact e23
  · exact e47
  · exact e86
  · exact e198

theorem mixed : (V Oaag.prog).P.follows .mixedOrders = true := by kernel_rfl

theorem given (hT : ∀ g ∈ toldL, Tw.Told (V Oaag.prog) g) : Given (V Oaag.prog) (drAll (V Oaag.prog)) where
  glob := glob
  eq := eqs
  fns g hg := by
    rcases F_mem hg with h | h
    · exact .inl (okL_ok g h)
    · exact .inr (hT g h)
end Go.Proofs.Oaag.Twn
