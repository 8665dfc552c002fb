/-
  The table of the law of one run, all its rows checked.
-/
import Derived.Test.YgcoaaGreatSz0
import Derived.Test.YgcoaaGreatSz1
import Derived.Test.YgcoaaGreatSz2
import Derived.Test.YgcoaaGreatSz3
set_option linter.unusedVariables false
set_option maxRecDepth 20000
namespace Go.Proofs.YgcoaaGreat.SfZ
open Go Go.Sf

theorem rows0 : Go.Sf.Rows Oaag.prog SfW.eqU baseG SfW.xgU t0 := trivial
theorem rows1 : Go.Sf.Rows Oaag.prog SfW.eqU baseG SfW.xgU t1 := ⟨k1, rows0⟩
theorem rows2 : Go.Sf.Rows Oaag.prog SfW.eqU baseG SfW.xgU t2 := ⟨k2, rows1⟩
theorem rows3 : Go.Sf.Rows Oaag.prog SfW.eqU baseG SfW.xgU t3 := ⟨k3, rows2⟩
theorem rows4 : Go.Sf.Rows Oaag.prog SfW.eqU baseG SfW.xgU t4 := ⟨k4, rows3⟩
theorem rows5 : Go.Sf.Rows Oaag.prog SfW.eqU baseG SfW.xgU t5 := ⟨k5, rows4⟩
theorem rows6 : Go.Sf.Rows Oaag.prog SfW.eqU baseG SfW.xgU t6 := ⟨k6, rows5⟩
theorem rows7 : Go.Sf.Rows Oaag.prog SfW.eqU baseG SfW.xgU t7 := ⟨k7, rows6⟩
theorem rows8 : Go.Sf.Rows Oaag.prog SfW.eqU baseG SfW.xgU t8 := ⟨k8, rows7⟩
theorem rows9 : Go.Sf.Rows Oaag.prog SfW.eqU baseG SfW.xgU t9 := ⟨k9, rows8⟩
theorem rows10 : Go.Sf.Rows Oaag.prog SfW.eqU baseG SfW.xgU t10 := ⟨k10, rows9⟩
theorem rows11 : Go.Sf.Rows Oaag.prog SfW.eqU baseG SfW.xgU t11 := ⟨k11, rows10⟩
theorem rows12 : Go.Sf.Rows Oaag.prog SfW.eqU baseG SfW.xgU t12 := ⟨k12, rows11⟩
theorem rows13 : Go.Sf.Rows Oaag.prog SfW.eqU baseG SfW.xgU t13 := ⟨k13, rows12⟩
theorem rows14 : Go.Sf.Rows Oaag.prog SfW.eqU baseG SfW.xgU t14 := ⟨k14, rows13⟩
theorem rows15 : Go.Sf.Rows Oaag.prog SfW.eqU baseG SfW.xgU t15 := ⟨k15, rows14⟩
theorem rows16 : Go.Sf.Rows Oaag.prog SfW.eqU baseG SfW.xgU t16 := ⟨k16, rows15⟩
theorem rows17 : Go.Sf.Rows Oaag.prog SfW.eqU baseG SfW.xgU t17 := ⟨k17, rows16⟩
theorem rows18 : Go.Sf.Rows Oaag.prog SfW.eqU baseG SfW.xgU t18 := ⟨k18, rows17⟩
theorem rows19 : Go.Sf.Rows Oaag.prog SfW.eqU baseG SfW.xgU t19 := ⟨k19, rows18⟩
theorem rows20 : Go.Sf.Rows Oaag.prog SfW.eqU baseG SfW.xgU t20 := ⟨k20, rows19⟩
end Go.Proofs.YgcoaaGreat.SfZ
