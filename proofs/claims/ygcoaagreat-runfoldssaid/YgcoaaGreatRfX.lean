/-
  readFlags, hexFlags, exactly.
-/
import Derived.Test.YgcoaaGreatSxY
set_option linter.unusedVariables false
set_option linter.unusedSimpArgs false
set_option maxRecDepth 20000
namespace Go.Proofs.YgcoaaGreat.NatW
open Go.RowKit
open Go.Proofs.YgcoaaGreat.Det
open Go.Proofs.YgcoaaGreat.Limbs Go.Proofs.YgcoaaGreat.Bits
attribute [local go_sem] Go.Instr.field Go.asAgg

set_option maxHeartbeats 2000000 in
theorem rf_268_w (E M : Nat) (hf : fok E M = true) (md : Int) (text : ByteArray) (k : Int) (nn : Bool) (dd : ByteArray) (ee pp gg : Int) (hk : k = 3) (tb : Nat) (hS : DFT tb 254 #[.string text] (.agg #[.int .u8 k, .bool nn, .string dd, .int .i16 ee, .int .i64 pp, .int .i32 gg])) : DFT tb 268 #[fmt E M, .int .u8 md, .string text] (.string ⟨#[119, 114, 111, 110, 103]⟩) := by
  intro w K ho hK
  have HK := hide hK
  clear hK
  have hb0 : Below w.heap.size w (w.alloc (Obj.cells #[Value.int IntKind.u8 E, Value.int IntKind.u8 M] 23)) := (Below.refl _ _).alloc (Nat.le_refl _) _
  have HO := hide (ho.later hb0)
  have HB0 := hide hb0
  have HSS := hide hS
  clear ho hb0 hS
  subst hk
  go_enter Oaag.func268, Oaag.ntmps268
  go_wp2_with ((with_reducible refine DFT.go (unhide HSS) (unhide HO) ?_); intro W2 hb; have HB := hide ((unhide HB0).trans (hb.mono (by simp))); have d0 : W2.cell? ⟨w.heap.size, 0, none⟩ = some (.int .u8 E) := (hb.cell (p := ⟨w.heap.size, 0, none⟩) (by simp)).trans (by simp); have d1 : W2.cell? ⟨w.heap.size, 1, none⟩ = some (.int .u8 M) := (hb.cell (p := ⟨w.heap.size, 1, none⟩) (by simp)).trans (by simp); have lt2 : w.heap.size < W2.heap.size := Nat.lt_of_lt_of_le (by simp) hb.size; have HO2 := hide ((unhide HO).later hb); clear hb)
  all_goals first | exact unhide HK _ ((unhide HB).alloc (unhide HB).size _) | fail

set_option maxHeartbeats 2000000 in
theorem rf_268_b (E M : Nat) (hf : fok E M = true) (md : Int) (text : ByteArray) (k : Int) (nn : Bool) (dd : ByteArray) (ee pp gg : Int) (hk : k = 4) (tb : Nat) (hS : DFT tb 254 #[.string text] (.agg #[.int .u8 k, .bool nn, .string dd, .int .i16 ee, .int .i64 pp, .int .i32 gg])) : DFT tb 268 #[fmt E M, .int .u8 md, .string text] (.string ⟨#[116, 111, 111, 32, 98, 105, 103]⟩) := by
  intro w K ho hK
  have HK := hide hK
  clear hK
  have hb0 : Below w.heap.size w (w.alloc (Obj.cells #[Value.int IntKind.u8 E, Value.int IntKind.u8 M] 23)) := (Below.refl _ _).alloc (Nat.le_refl _) _
  have HO := hide (ho.later hb0)
  have HB0 := hide hb0
  have HSS := hide hS
  clear ho hb0 hS
  subst hk
  go_enter Oaag.func268, Oaag.ntmps268
  go_wp2_with ((with_reducible refine DFT.go (unhide HSS) (unhide HO) ?_); intro W2 hb; have HB := hide ((unhide HB0).trans (hb.mono (by simp))); have d0 : W2.cell? ⟨w.heap.size, 0, none⟩ = some (.int .u8 E) := (hb.cell (p := ⟨w.heap.size, 0, none⟩) (by simp)).trans (by simp); have d1 : W2.cell? ⟨w.heap.size, 1, none⟩ = some (.int .u8 M) := (hb.cell (p := ⟨w.heap.size, 1, none⟩) (by simp)).trans (by simp); have lt2 : w.heap.size < W2.heap.size := Nat.lt_of_lt_of_le (by simp) hb.size; have HO2 := hide ((unhide HO).later hb); clear hb)
  all_goals first | exact unhide HK _ ((unhide HB).alloc (unhide HB).size _) | fail

set_option maxHeartbeats 2000000 in
theorem rf_268_f (E M : Nat) (hf : fok E M = true) (md : Int) (text : ByteArray) (k : Int) (nn : Bool) (dd : ByteArray) (ee pp gg : Int) (b3 : (k == 3) = false) (b4 : (k == 4) = false) (rr ff : Int) (s0 : ByteArray) (hR : ∀ tb, DFT tb 170 #[fmt E M, .int .u8 md, .agg #[.bool nn, .string dd, .int .i16 ee]] (.int .u8 ff)) (hF : ∀ tb, DFT tb 237 #[.int .u8 ff] (.string s0)) (tb : Nat) (hS : DFT tb 254 #[.string text] (.agg #[.int .u8 k, .bool nn, .string dd, .int .i16 ee, .int .i64 pp, .int .i32 gg])) : DFT tb 268 #[fmt E M, .int .u8 md, .string text] (.string s0) := by
  intro w K ho hK
  have HK := hide hK
  clear hK
  have hb0 : Below w.heap.size w (w.alloc (Obj.cells #[Value.int IntKind.u8 E, Value.int IntKind.u8 M] 23)) := (Below.refl _ _).alloc (Nat.le_refl _) _
  have HO := hide (ho.later hb0)
  have HB0 := hide hb0
  have HSS := hide hS
  clear ho hb0 hS
  have HRR := hide (hR tb)
  have HFF := hide (hF tb)
  clear hR hF
  go_enter Oaag.func268, Oaag.ntmps268
  go_wp2_with (first
    | ((with_reducible refine DFT.go (unhide HSS) (unhide HO) ?_); intro W2 hb; have HB := hide ((unhide HB0).trans (hb.mono (by simp))); have d0 : W2.cell? ⟨w.heap.size, 0, none⟩ = some (.int .u8 E) := (hb.cell (p := ⟨w.heap.size, 0, none⟩) (by simp)).trans (by simp); have d1 : W2.cell? ⟨w.heap.size, 1, none⟩ = some (.int .u8 M) := (hb.cell (p := ⟨w.heap.size, 1, none⟩) (by simp)).trans (by simp); have lt2 : w.heap.size < W2.heap.size := Nat.lt_of_lt_of_le (by simp) hb.size; have HO2 := hide ((unhide HO).later hb); clear hb)
    | ((with_reducible refine DFT.go (unhide HRR) ((unhide HO2).later ((Below.refl _ _).alloc (Nat.le_refl _) _)) ?_); intro W3 hb; have HO3 := hide (((unhide HO2).later ((Below.refl _ _).alloc (Nat.le_refl _) _)).later hb); have HB3 := hide (((unhide HB).alloc (unhide HB).size _).trans (hb.mono (by simp; omega))); clear hb)
    | ((with_reducible refine DFT.go (unhide HFF) (unhide HO3) ?_); intro W4 hb; have HB4 := hide ((unhide HB3).trans (hb.mono (unhide HB3).size)); clear hb))
  all_goals first | exact unhide HK _ (unhide HB4) | fail

set_option maxHeartbeats 2000000 in
theorem rf_269_w (E M : Nat) (hf : fok E M = true) (md : Int) (text : ByteArray) (k : Int) (nn : Bool) (dd : ByteArray) (ee pp gg : Int) (hk : k = 3) (tb : Nat) (hS : DFT tb 266 #[.string text] (.agg #[.int .u8 k, .bool nn, .string dd, .int .i16 ee, .int .i64 pp, .int .i32 gg])) : DFT tb 269 #[fmt E M, .int .u8 md, .string text] (.string ⟨#[119, 114, 111, 110, 103]⟩) := by
  intro w K ho hK
  have HK := hide hK
  clear hK
  have hb0 : Below w.heap.size w (w.alloc (Obj.cells #[Value.int IntKind.u8 E, Value.int IntKind.u8 M] 23)) := (Below.refl _ _).alloc (Nat.le_refl _) _
  have HO := hide (ho.later hb0)
  have HB0 := hide hb0
  have HSS := hide hS
  clear ho hb0 hS
  subst hk
  go_enter Oaag.func269, Oaag.ntmps269
  go_wp2_with ((with_reducible refine DFT.go (unhide HSS) (unhide HO) ?_); intro W2 hb; have HB := hide ((unhide HB0).trans (hb.mono (by simp))); have d0 : W2.cell? ⟨w.heap.size, 0, none⟩ = some (.int .u8 E) := (hb.cell (p := ⟨w.heap.size, 0, none⟩) (by simp)).trans (by simp); have d1 : W2.cell? ⟨w.heap.size, 1, none⟩ = some (.int .u8 M) := (hb.cell (p := ⟨w.heap.size, 1, none⟩) (by simp)).trans (by simp); have lt2 : w.heap.size < W2.heap.size := Nat.lt_of_lt_of_le (by simp) hb.size; have HO2 := hide ((unhide HO).later hb); clear hb)
  all_goals first | exact unhide HK _ ((unhide HB).alloc (unhide HB).size _) | fail

set_option maxHeartbeats 2000000 in
theorem rf_269_b (E M : Nat) (hf : fok E M = true) (md : Int) (text : ByteArray) (k : Int) (nn : Bool) (dd : ByteArray) (ee pp gg : Int) (hk : k = 4) (tb : Nat) (hS : DFT tb 266 #[.string text] (.agg #[.int .u8 k, .bool nn, .string dd, .int .i16 ee, .int .i64 pp, .int .i32 gg])) : DFT tb 269 #[fmt E M, .int .u8 md, .string text] (.string ⟨#[116, 111, 111, 32, 98, 105, 103]⟩) := by
  intro w K ho hK
  have HK := hide hK
  clear hK
  have hb0 : Below w.heap.size w (w.alloc (Obj.cells #[Value.int IntKind.u8 E, Value.int IntKind.u8 M] 23)) := (Below.refl _ _).alloc (Nat.le_refl _) _
  have HO := hide (ho.later hb0)
  have HB0 := hide hb0
  have HSS := hide hS
  clear ho hb0 hS
  subst hk
  go_enter Oaag.func269, Oaag.ntmps269
  go_wp2_with ((with_reducible refine DFT.go (unhide HSS) (unhide HO) ?_); intro W2 hb; have HB := hide ((unhide HB0).trans (hb.mono (by simp))); have d0 : W2.cell? ⟨w.heap.size, 0, none⟩ = some (.int .u8 E) := (hb.cell (p := ⟨w.heap.size, 0, none⟩) (by simp)).trans (by simp); have d1 : W2.cell? ⟨w.heap.size, 1, none⟩ = some (.int .u8 M) := (hb.cell (p := ⟨w.heap.size, 1, none⟩) (by simp)).trans (by simp); have lt2 : w.heap.size < W2.heap.size := Nat.lt_of_lt_of_le (by simp) hb.size; have HO2 := hide ((unhide HO).later hb); clear hb)
  all_goals first | exact unhide HK _ ((unhide HB).alloc (unhide HB).size _) | fail

set_option maxHeartbeats 2000000 in
theorem rf_269_f (E M : Nat) (hf : fok E M = true) (md : Int) (text : ByteArray) (k : Int) (nn : Bool) (dd : ByteArray) (ee pp gg : Int) (b3 : (k == 3) = false) (b4 : (k == 4) = false) (rr ff : Int) (s0 : ByteArray) (hR : ∀ tb, DFT tb 338 #[fmt E M, .int .u8 md, .agg #[.bool nn, .string dd, .int .i16 ee]] (.tuple #[.int .u64 rr, .int .u8 ff])) (hF : ∀ tb, DFT tb 237 #[.int .u8 ff] (.string s0)) (tb : Nat) (hS : DFT tb 266 #[.string text] (.agg #[.int .u8 k, .bool nn, .string dd, .int .i16 ee, .int .i64 pp, .int .i32 gg])) : DFT tb 269 #[fmt E M, .int .u8 md, .string text] (.string s0) := by
  intro w K ho hK
  have HK := hide hK
  clear hK
  have hb0 : Below w.heap.size w (w.alloc (Obj.cells #[Value.int IntKind.u8 E, Value.int IntKind.u8 M] 23)) := (Below.refl _ _).alloc (Nat.le_refl _) _
  have HO := hide (ho.later hb0)
  have HB0 := hide hb0
  have HSS := hide hS
  clear ho hb0 hS
  have HRR := hide (hR tb)
  have HFF := hide (hF tb)
  clear hR hF
  go_enter Oaag.func269, Oaag.ntmps269
  go_wp2_with (first
    | ((with_reducible refine DFT.go (unhide HSS) (unhide HO) ?_); intro W2 hb; have HB := hide ((unhide HB0).trans (hb.mono (by simp))); have d0 : W2.cell? ⟨w.heap.size, 0, none⟩ = some (.int .u8 E) := (hb.cell (p := ⟨w.heap.size, 0, none⟩) (by simp)).trans (by simp); have d1 : W2.cell? ⟨w.heap.size, 1, none⟩ = some (.int .u8 M) := (hb.cell (p := ⟨w.heap.size, 1, none⟩) (by simp)).trans (by simp); have lt2 : w.heap.size < W2.heap.size := Nat.lt_of_lt_of_le (by simp) hb.size; have HO2 := hide ((unhide HO).later hb); clear hb)
    | ((with_reducible refine DFT.go (unhide HRR) ((unhide HO2).later ((Below.refl _ _).alloc (Nat.le_refl _) _)) ?_); intro W3 hb; have HO3 := hide (((unhide HO2).later ((Below.refl _ _).alloc (Nat.le_refl _) _)).later hb); have HB3 := hide (((unhide HB).alloc (unhide HB).size _).trans (hb.mono (by simp; omega))); clear hb)
    | ((with_reducible refine DFT.go (unhide HFF) (unhide HO3) ?_); intro W4 hb; have HB4 := hide ((unhide HB3).trans (hb.mono (unhide HB3).size)); clear hb))
  all_goals first | exact unhide HK _ (unhide HB4) | fail

set_option maxHeartbeats 2000000 in
theorem rf_242_w (E M : Nat) (hf : fok E M = true) (md : Int) (text : ByteArray) (k : Int) (nn : Bool) (dd : ByteArray) (ee pp gg : Int) (hk : k = 3) (tb : Nat) (hS : DFT tb 240 #[.string text] (.agg #[.int .u8 k, .bool nn, .string dd, .int .i16 ee, .int .i64 pp, .int .i32 gg])) : DFT tb 242 #[fmt E M, .int .u8 md, .string text] (.string ⟨#[119, 114, 111, 110, 103]⟩) := by
  intro w K ho hK
  have HK := hide hK
  clear hK
  have hb0 : Below w.heap.size w (w.alloc (Obj.cells #[Value.int IntKind.u8 E, Value.int IntKind.u8 M] 23)) := (Below.refl _ _).alloc (Nat.le_refl _) _
  have HO := hide (ho.later hb0)
  have HB0 := hide hb0
  have HSS := hide hS
  clear ho hb0 hS
  subst hk
  go_enter Oaag.func242, Oaag.ntmps242
  go_wp2_with ((with_reducible refine DFT.go (unhide HSS) (unhide HO) ?_); intro W2 hb; have HB := hide ((unhide HB0).trans (hb.mono (by simp))); have d0 : W2.cell? ⟨w.heap.size, 0, none⟩ = some (.int .u8 E) := (hb.cell (p := ⟨w.heap.size, 0, none⟩) (by simp)).trans (by simp); have d1 : W2.cell? ⟨w.heap.size, 1, none⟩ = some (.int .u8 M) := (hb.cell (p := ⟨w.heap.size, 1, none⟩) (by simp)).trans (by simp); have lt2 : w.heap.size < W2.heap.size := Nat.lt_of_lt_of_le (by simp) hb.size; have HO2 := hide ((unhide HO).later hb); clear hb)
  all_goals first | exact unhide HK _ ((unhide HB).alloc (unhide HB).size _) | fail

set_option maxHeartbeats 2000000 in
theorem rf_242_b (E M : Nat) (hf : fok E M = true) (md : Int) (text : ByteArray) (k : Int) (nn : Bool) (dd : ByteArray) (ee pp gg : Int) (hk : k = 4) (tb : Nat) (hS : DFT tb 240 #[.string text] (.agg #[.int .u8 k, .bool nn, .string dd, .int .i16 ee, .int .i64 pp, .int .i32 gg])) : DFT tb 242 #[fmt E M, .int .u8 md, .string text] (.string ⟨#[116, 111, 111, 32, 98, 105, 103]⟩) := by
  intro w K ho hK
  have HK := hide hK
  clear hK
  have hb0 : Below w.heap.size w (w.alloc (Obj.cells #[Value.int IntKind.u8 E, Value.int IntKind.u8 M] 23)) := (Below.refl _ _).alloc (Nat.le_refl _) _
  have HO := hide (ho.later hb0)
  have HB0 := hide hb0
  have HSS := hide hS
  clear ho hb0 hS
  subst hk
  go_enter Oaag.func242, Oaag.ntmps242
  go_wp2_with ((with_reducible refine DFT.go (unhide HSS) (unhide HO) ?_); intro W2 hb; have HB := hide ((unhide HB0).trans (hb.mono (by simp))); have d0 : W2.cell? ⟨w.heap.size, 0, none⟩ = some (.int .u8 E) := (hb.cell (p := ⟨w.heap.size, 0, none⟩) (by simp)).trans (by simp); have d1 : W2.cell? ⟨w.heap.size, 1, none⟩ = some (.int .u8 M) := (hb.cell (p := ⟨w.heap.size, 1, none⟩) (by simp)).trans (by simp); have lt2 : w.heap.size < W2.heap.size := Nat.lt_of_lt_of_le (by simp) hb.size; have HO2 := hide ((unhide HO).later hb); clear hb)
  all_goals first | exact unhide HK _ ((unhide HB).alloc (unhide HB).size _) | fail

set_option maxHeartbeats 2000000 in
theorem rf_242_f (E M : Nat) (hf : fok E M = true) (md : Int) (text : ByteArray) (k : Int) (nn : Bool) (dd : ByteArray) (ee pp gg : Int) (b3 : (k == 3) = false) (b4 : (k == 4) = false) (rr ff : Int) (s0 : ByteArray) (hR : ∀ tb, DFT tb 337 #[fmt E M, .int .u8 md, .bool nn, .string dd, .int .i16 ee] (.tuple #[.int .u64 rr, .int .u8 ff])) (hF : ∀ tb, DFT tb 237 #[.int .u8 ff] (.string s0)) (tb : Nat) (hS : DFT tb 240 #[.string text] (.agg #[.int .u8 k, .bool nn, .string dd, .int .i16 ee, .int .i64 pp, .int .i32 gg])) : DFT tb 242 #[fmt E M, .int .u8 md, .string text] (.string s0) := by
  intro w K ho hK
  have HK := hide hK
  clear hK
  have hb0 : Below w.heap.size w (w.alloc (Obj.cells #[Value.int IntKind.u8 E, Value.int IntKind.u8 M] 23)) := (Below.refl _ _).alloc (Nat.le_refl _) _
  have HO := hide (ho.later hb0)
  have HB0 := hide hb0
  have HSS := hide hS
  clear ho hb0 hS
  have HRR := hide (hR tb)
  have HFF := hide (hF tb)
  clear hR hF
  go_enter Oaag.func242, Oaag.ntmps242
  go_wp2_with (first
    | ((with_reducible refine DFT.go (unhide HSS) (unhide HO) ?_); intro W2 hb; have HB := hide ((unhide HB0).trans (hb.mono (by simp))); have d0 : W2.cell? ⟨w.heap.size, 0, none⟩ = some (.int .u8 E) := (hb.cell (p := ⟨w.heap.size, 0, none⟩) (by simp)).trans (by simp); have d1 : W2.cell? ⟨w.heap.size, 1, none⟩ = some (.int .u8 M) := (hb.cell (p := ⟨w.heap.size, 1, none⟩) (by simp)).trans (by simp); have lt2 : w.heap.size < W2.heap.size := Nat.lt_of_lt_of_le (by simp) hb.size; have HO2 := hide ((unhide HO).later hb); clear hb)
    | ((with_reducible refine DFT.go (unhide HRR) ((unhide HO2).later ((Below.refl _ _).alloc (Nat.le_refl _) _)) ?_); intro W3 hb; have HO3 := hide (((unhide HO2).later ((Below.refl _ _).alloc (Nat.le_refl _) _)).later hb); have HB3 := hide (((unhide HB).alloc (unhide HB).size _).trans (hb.mono (by simp; omega))); clear hb)
    | ((with_reducible refine DFT.go (unhide HFF) (unhide HO3) ?_); intro W4 hb; have HB4 := hide ((unhide HB3).trans (hb.mono (unhide HB3).size)); clear hb))
  all_goals first | exact unhide HK _ (unhide HB4) | fail
end Go.Proofs.YgcoaaGreat.NatW
