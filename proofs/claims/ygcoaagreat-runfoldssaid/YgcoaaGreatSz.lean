/-
  The tables for the law of one run, over this program.
-/
import Derived.Test.YgcoaaGreatSyC
set_option linter.unusedVariables false
set_option maxRecDepth 20000
namespace Go.Proofs.YgcoaaGreat.SfZ
open Go Go.Sf

/-- The contracts of the first table. -/
def baseG (g : FuncId) (ps : D) : Option D := sgL SfW.baseF SfW.t150 g ps
theorem baseG_ok {g : FuncId} {ps r : D} (h : baseG g ps = some r) : Con Oaag.prog g ps r := SfW.con_row h

def d0 : D := (.int .i16 (-1100) 1030)
def d1 : D := (.int .i16 (-332) 331)
def d2 : D := (.int .i16 (-32768) 32767)
def d3 : D := (.int .i16 (-1300) 1100)
def d4 : D := (.int .u64 0 18446744073709551615)
def d5 : D := (.ptr (D.app (D.rep d4 1392) (D.rep d3 696)))
def d6 : D := (.agg (.cons d4 (.cons d4 .nil)))
def d7 : D := (.tup (.cons d6 (.cons d3 (.cons (.bool none) .nil))))
def d8 : D := (.agg (.cons (.int .u64 0 0) (.cons (.int .u64 1 1) .nil)))
def d9 : D := (.tup (.cons d6 (.cons (.bool none) .nil)))
def d10 : D := (.agg (.cons (.int .u64 0 0) (.cons d4 .nil)))
def d11 : D := (.tup (.cons d4 (.cons (.bool none) .nil)))
def d12 : D := (.int .i64 (-9223372036854775808) 9223372036854775807)
def d13 : D := (.int .u32 0 4294967295)
def d14 : D := (.agg (.cons (.bool none) (.cons (.slc 1 d13 16384) (.cons (.slc 1 d13 2) .nil))))
def d15 : D := (.agg (.cons (.bool none) (.cons (.slc 1 d13 16384) (.cons (.slc 1 d13 16384) .nil))))
def d16 : D := (.int .i8 (-128) 127)
def d17 : D := (.agg (.cons d16 (.cons (.bool none) .nil)))
def d18 : D := (.tup (.cons (.slc 1 d13 1048576) (.cons d17 .nil)))
def d19 : D := (.tup (.cons (.slc 1 d13 1048577) (.cons d17 .nil)))
def d20 : D := (.agg (.cons (.bool none) (.cons (.slc 1 d13 262144) (.cons (.slc 1 d13 262144) .nil))))
def d21 : D := (.tup (.cons d12 (.cons d17 .nil)))

def t0 : List Row := []
def al1 (k : Nat) (_ : TypeId) : D := .nil
def t1 : List Row := ⟨308, (.cons d0 .nil), d1, al1⟩ :: t0
def al2 (k : Nat) (_ : TypeId) : D := (bif Nat.beq k 4 then (.cons d4 (.cons d4 .nil)) else .nil)
def t2 : List Row := ⟨191, (.cons d5 (.cons d2 .nil)), d7, al2⟩ :: t1
def al3 (k : Nat) (_ : TypeId) : D := (bif Nat.beq k 2 then (.cons d4 (.cons d4 .nil)) else .nil)
def t3 : List Row := ⟨51, (.cons d6 (.cons d2 .nil)), (.bool none), al3⟩ :: t2
def al4 (k : Nat) (_ : TypeId) : D := (bif Nat.beq k 2 then (.cons d4 (.cons d4 .nil)) else (bif Nat.beq k 3 then (.cons (.int .u64 0 0) (.cons (.int .u64 1 1) .nil)) else (bif Nat.beq k 4 then (.cons d4 (.cons d4 .nil)) else .nil)))
def t4 : List Row := ⟨196, (.cons d6 (.cons d8 .nil)), d9, al4⟩ :: t3
def al5 (k : Nat) (_ : TypeId) : D := (bif Nat.beq k 4 then (.cons d4 (.cons d4 .nil)) else .nil)
def t5 : List Row := ⟨195, (.cons d4 (.cons d4 .nil)), d6, al5⟩ :: t4
def al6 (k : Nat) (_ : TypeId) : D := (bif Nat.beq k 2 then (.cons d4 (.cons d4 .nil)) else (bif Nat.beq k 3 then (.cons (.int .u64 0 0) (.cons d4 .nil)) else (bif Nat.beq k 4 then (.cons d4 (.cons d4 .nil)) else .nil)))
def t6 : List Row := ⟨196, (.cons d6 (.cons d10 .nil)), d9, al6⟩ :: t5
def al7 (k : Nat) (_ : TypeId) : D := (bif Nat.beq k 2 then (.cons d4 (.cons d4 .nil)) else (bif Nat.beq k 4 then (.cons d4 (.cons d4 .nil)) else .nil))
def t7 : List Row := ⟨342, (.cons d6 (.cons (.int .u8 0 255) .nil)), d6, al7⟩ :: t6
def al8 (k : Nat) (_ : TypeId) : D := .nil
def t8 : List Row := ⟨343, (.cons d4 (.cons d2 .nil)), (.bool none), al8⟩ :: t7
def al9 (k : Nat) (_ : TypeId) : D := (bif Nat.beq k 9 then (.cons d4 (.cons d4 .nil)) else (bif Nat.beq k 13 then (.cons d4 (.cons d4 .nil)) else (bif Nat.beq k 14 then (.cons d4 (.cons d4 .nil)) else .nil)))
def t9 : List Row := ⟨192, (.cons d5 (.cons d4 (.cons d2 .nil))), d11, al9⟩ :: t8
def al10 (k : Nat) (_ : TypeId) : D := .nil
def t10 : List Row := ⟨308, (.cons d2 .nil), d1, al10⟩ :: t9
def al11 (k : Nat) (_ : TypeId) : D := .nil
def t11 : List Row := ⟨78, (.cons d12 .nil), (.slc 1 d13 8192), al11⟩ :: t10
def al12 (k : Nat) (_ : TypeId) : D := (bif Nat.beq k 4 then (.cons (.bool none) (.cons (.slc 1 d13 16384) (.cons (.slc 1 d13 2) .nil))) else .nil)
def t12 : List Row := ⟨69, (.cons (.bool none) (.cons (.slc 1 d13 16384) .nil)), d14, al12⟩ :: t11
def al13 (k : Nat) (_ : TypeId) : D := (bif Nat.beq k 2 then (.cons (.bool none) (.cons (.slc 1 d13 16384) (.cons (.slc 1 d13 16384) .nil))) else .nil)
def t13 : List Row := ⟨398, (.cons d12 .nil), d15, al13⟩ :: t12
def al14 (k : Nat) (_ : TypeId) : D := (bif Nat.beq k 5 then (.cons d16 (.cons (.bool none) .nil)) else .nil)
def t14 : List Row := ⟨334, (.cons (.slc 1 d13 1048576) (.cons (.slc 1 d13 1048576) .nil)), d18, al14⟩ :: t13
def al15 (k : Nat) (_ : TypeId) : D := (bif Nat.beq k 7 then (.cons d16 (.cons (.bool none) .nil)) else .nil)
def t15 : List Row := ⟨413, (.cons (.int .u8 0 255) (.cons (.bool none) (.cons (.bool none) (.cons d17 .nil)))), (.bool none), al15⟩ :: t14
def al16 (k : Nat) (_ : TypeId) : D := (bif Nat.beq k 9 then (.cons d16 (.cons (.bool none) .nil)) else (bif Nat.beq k 11 then (.cons d16 (.cons (.bool none) .nil)) else .nil))
def t16 : List Row := ⟨352, (.cons (.int .u8 0 255) (.cons (.bool none) (.cons (.slc 1 d13 1048576) (.cons (.slc 1 d13 1048576) .nil)))), d19, al16⟩ :: t15
def al17 (k : Nat) (_ : TypeId) : D := (bif Nat.beq k 2 then (.cons (.bool none) (.cons (.slc 1 d13 262144) (.cons (.slc 1 d13 262144) .nil))) else (bif Nat.beq k 5 then (.cons (.bool none) (.cons (.slc 1 d13 16384) (.cons (.slc 1 d13 16384) .nil))) else (bif Nat.beq k 7 then (.cons d16 (.cons (.bool none) .nil)) else .nil)))
def t17 : List Row := ⟨326, (.cons d20 (.cons d12 .nil)), (.slc 1 d13 1048577), al17⟩ :: t16
def al18 (k : Nat) (_ : TypeId) : D := .nil
def t18 : List Row := ⟨335, (.cons (.slc 1 d13 1048576) .nil), d4, al18⟩ :: t17
def al19 (k : Nat) (_ : TypeId) : D := (bif Nat.beq k 2 then (.cons (.bool none) (.cons (.slc 1 d13 262144) (.cons (.slc 1 d13 262144) .nil))) else (bif Nat.beq k 5 then (.cons d16 (.cons (.bool none) .nil)) else (bif Nat.beq k 6 then (.cons (.bool none) (.cons (.slc 1 d13 16384) (.cons (.slc 1 d13 16384) .nil))) else (bif Nat.beq k 8 then (.cons d16 (.cons (.bool none) .nil)) else .nil))))
def t19 : List Row := ⟨303, (.cons d20 (.cons d12 .nil)), d21, al19⟩ :: t18
def al20 (k : Nat) (_ : TypeId) : D := (bif Nat.beq k 5 then (.cons d16 (.cons (.bool none) .nil)) else (bif Nat.beq k 6 then (.cons d16 (.cons (.bool none) .nil)) else .nil))
def t20 : List Row := ⟨304, (.cons d12 (.cons d12 (.cons d17 .nil))), d17, al20⟩ :: t19
end Go.Proofs.YgcoaaGreat.SfZ
