/-
  The tables for the law of one run, over this program.
-/
import Derived.Test.YgcoaaGreatSyC
set_option linter.unusedVariables false
set_option maxRecDepth 20000
namespace Go.Proofs.YgcoaaGreat.Sf2
open Go Go.Sf

/-- The contracts of the first table. -/
def baseG (g : FuncId) (ps : D) : Option D := sgL SfW.baseF SfW.t150 g ps
theorem baseG_ok {g : FuncId} {ps r : D} (h : baseG g ps = some r) : Con Oaag.prog g ps r := SfW.con_row h

def d0 : D := (.int .u32 0 4294967295)
def d1 : D := (.agg (.cons (.bool none) (.cons (.slc 1 d0 16384) (.cons (.slc 1 d0 2) .nil))))
def d2 : D := (.int .i64 (-9223372036854775808) 9223372036854775807)
def d3 : D := (.agg (.cons (.bool none) (.cons (.slc 1 d0 16384) (.cons (.slc 1 d0 4096) .nil))))
def d4 : D := (.agg (.cons (.int .u8 2 11) (.cons (.int .u8 2 52) .nil)))
def d5 : D := (.int .u64 0 9223372036854775808)
def d6 : D := (.int .u64 0 18446744073709551615)
def d7 : D := (.int .i16 (-1) 1023)
def d8 : D := (.int .i16 (-32768) 32767)
def d9 : D := (.int .i8 (-128) 127)
def d10 : D := (.agg (.cons (.bool none) (.cons d9 (.cons d8 (.cons d6 .nil)))))
def d11 : D := (.tup (.cons d3 (.cons d9 .nil)))
def d12 : D := (.agg (.cons d6 (.cons (.bool none) (.cons d9 (.cons (.bool none) (.cons (.slc 1 d0 16384) (.cons (.slc 1 d0 4096) .nil)))))))
def d13 : D := (.tup (.cons (.slc 1 d0 18432) (.cons (.slc 1 d0 6144) .nil)))

def t0 : List Row := []
def al1 (k : Nat) (_ : TypeId) : D := (bif Nat.beq k 4 then (.cons (.bool none) (.cons (.slc 1 d0 16384) (.cons (.slc 1 d0 2) .nil))) else .nil)
def t1 : List Row := ⟨69, (.cons (.bool none) (.cons (.slc 1 d0 16384) .nil)), d1, al1⟩ :: t0
def al2 (k : Nat) (_ : TypeId) : D := (bif Nat.beq k 6 then (.cons (.bool none) (.cons (.slc 1 d0 16384) (.cons (.slc 1 d0 4096) .nil))) else .nil)
def t2 : List Row := ⟨70, (.cons (.bool none) (.cons (.slc 1 d0 4096) (.cons d2 .nil))), d3, al2⟩ :: t1
def al3 (k : Nat) (_ : TypeId) : D := (bif Nat.beq k 1 then (.cons (.int .u8 2 11) (.cons (.int .u8 2 52) .nil)) else .nil)
def t3 : List Row := ⟨67, (.cons d4 .nil), (.bool none), al3⟩ :: t2
def al4 (k : Nat) (_ : TypeId) : D := (bif Nat.beq k 1 then (.cons (.int .u8 2 11) (.cons (.int .u8 2 52) .nil)) else .nil)
def t4 : List Row := ⟨104, (.cons d4 .nil), d5, al4⟩ :: t3
def al5 (k : Nat) (_ : TypeId) : D := (bif Nat.beq k 1 then (.cons (.int .u8 2 11) (.cons (.int .u8 2 52) .nil)) else .nil)
def t5 : List Row := ⟨163, (.cons d4 .nil), d6, al5⟩ :: t4
def al6 (k : Nat) (_ : TypeId) : D := .nil
def t6 : List Row := ⟨214, (.cons d6 .nil), (.int .u8 0 255), al6⟩ :: t5
def al7 (k : Nat) (_ : TypeId) : D := (bif Nat.beq k 1 then (.cons (.int .u8 2 11) (.cons (.int .u8 2 52) .nil)) else .nil)
def t7 : List Row := ⟨117, (.cons d4 .nil), d7, al7⟩ :: t6
def al8 (k : Nat) (_ : TypeId) : D := (bif Nat.beq k 3 then (.cons (.int .u8 2 11) (.cons (.int .u8 2 52) .nil)) else (bif Nat.beq k 6 then (.cons (.bool none) (.cons d9 (.cons d8 (.cons d6 .nil)))) else .nil))
def t8 : List Row := ⟨116, (.cons d4 (.cons (.bool none) (.cons d6 .nil))), d10, al8⟩ :: t7
def al9 (k : Nat) (_ : TypeId) : D := (bif Nat.beq k 2 then (.cons (.int .u8 2 11) (.cons (.int .u8 2 52) .nil)) else (bif Nat.beq k 4 then (.cons (.bool none) (.cons d9 (.cons d8 (.cons d6 .nil)))) else .nil))
def t9 : List Row := ⟨68, (.cons d4 (.cons d6 .nil)), d10, al9⟩ :: t8
def al10 (k : Nat) (_ : TypeId) : D := (bif Nat.beq k 2 then (.cons (.int .u8 2 11) (.cons (.int .u8 2 52) .nil)) else (bif Nat.beq k 4 then (.cons (.bool none) (.cons (.slc 1 d0 16384) (.cons (.slc 1 d0 4096) .nil))) else (bif Nat.beq k 6 then (.cons (.bool none) (.cons d9 (.cons d8 (.cons d6 .nil)))) else .nil)))
def t10 : List Row := ⟨33, (.cons d4 (.cons d6 .nil)), d11, al10⟩ :: t9
def al11 (k : Nat) (_ : TypeId) : D := (bif Nat.beq k 2 then (.cons (.int .u8 2 11) (.cons (.int .u8 2 52) .nil)) else (bif Nat.beq k 4 then (.cons d6 (.cons (.bool none) (.cons d9 (.cons (.bool none) (.cons (.slc 1 d0 16384) (.cons (.slc 1 d0 4096) .nil)))))) else (bif Nat.beq k 5 then (.cons (.bool none) (.cons (.slc 1 d0 16384) (.cons (.slc 1 d0 4096) .nil))) else .nil)))
def t11 : List Row := ⟨222, (.cons d4 (.cons d6 .nil)), d12, al11⟩ :: t10
def al12 (k : Nat) (_ : TypeId) : D := .nil
def t12 : List Row := ⟨333, (.cons (.slc 1 d0 16384) (.cons (.slc 1 d0 4096) (.cons d2 .nil))), d13, al12⟩ :: t11
def al13 (k : Nat) (_ : TypeId) : D := .nil
def t13 : List Row := ⟨332, (.cons (.slc 1 d0 16384) (.cons (.slc 1 d0 4096) (.cons d2 (.cons d2 .nil)))), d2, al13⟩ :: t12
end Go.Proofs.YgcoaaGreat.Sf2
