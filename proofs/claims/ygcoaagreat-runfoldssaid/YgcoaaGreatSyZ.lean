/-
  The table of the law of one run, all its rows checked.
-/
import Derived.Test.YgcoaaGreatSy0
import Derived.Test.YgcoaaGreatSy1
import Derived.Test.YgcoaaGreatSy2
import Derived.Test.YgcoaaGreatSy3
import Derived.Test.YgcoaaGreatSy4
import Derived.Test.YgcoaaGreatSy5
import Derived.Test.YgcoaaGreatSy6
import Derived.Test.YgcoaaGreatSy7
import Derived.Test.YgcoaaGreatSy8
import Derived.Test.YgcoaaGreatSy9
import Derived.Test.YgcoaaGreatSy10
import Derived.Test.YgcoaaGreatSy11
set_option linter.unusedVariables false
set_option maxRecDepth 20000
namespace Go.Proofs.YgcoaaGreat.SfW
open Go Go.Sf

theorem rows0 : Go.Sf.Rows Oaag.prog eqU baseF xgU t0 := trivial
theorem rows1 : Go.Sf.Rows Oaag.prog eqU baseF xgU t1 := ⟨k1, rows0⟩
theorem rows2 : Go.Sf.Rows Oaag.prog eqU baseF xgU t2 := ⟨k2, rows1⟩
theorem rows3 : Go.Sf.Rows Oaag.prog eqU baseF xgU t3 := ⟨k3, rows2⟩
theorem rows4 : Go.Sf.Rows Oaag.prog eqU baseF xgU t4 := ⟨k4, rows3⟩
theorem rows5 : Go.Sf.Rows Oaag.prog eqU baseF xgU t5 := ⟨k5, rows4⟩
theorem rows6 : Go.Sf.Rows Oaag.prog eqU baseF xgU t6 := ⟨k6, rows5⟩
theorem rows7 : Go.Sf.Rows Oaag.prog eqU baseF xgU t7 := ⟨k7, rows6⟩
theorem rows8 : Go.Sf.Rows Oaag.prog eqU baseF xgU t8 := ⟨k8, rows7⟩
theorem rows9 : Go.Sf.Rows Oaag.prog eqU baseF xgU t9 := ⟨k9, rows8⟩
theorem rows10 : Go.Sf.Rows Oaag.prog eqU baseF xgU t10 := ⟨k10, rows9⟩
theorem rows11 : Go.Sf.Rows Oaag.prog eqU baseF xgU t11 := ⟨k11, rows10⟩
theorem rows12 : Go.Sf.Rows Oaag.prog eqU baseF xgU t12 := ⟨k12, rows11⟩
theorem rows13 : Go.Sf.Rows Oaag.prog eqU baseF xgU t13 := ⟨k13, rows12⟩
theorem rows14 : Go.Sf.Rows Oaag.prog eqU baseF xgU t14 := ⟨k14, rows13⟩
theorem rows15 : Go.Sf.Rows Oaag.prog eqU baseF xgU t15 := ⟨k15, rows14⟩
theorem rows16 : Go.Sf.Rows Oaag.prog eqU baseF xgU t16 := ⟨k16, rows15⟩
theorem rows17 : Go.Sf.Rows Oaag.prog eqU baseF xgU t17 := ⟨k17, rows16⟩
theorem rows18 : Go.Sf.Rows Oaag.prog eqU baseF xgU t18 := ⟨k18, rows17⟩
theorem rows19 : Go.Sf.Rows Oaag.prog eqU baseF xgU t19 := ⟨k19, rows18⟩
theorem rows20 : Go.Sf.Rows Oaag.prog eqU baseF xgU t20 := ⟨k20, rows19⟩
theorem rows21 : Go.Sf.Rows Oaag.prog eqU baseF xgU t21 := ⟨k21, rows20⟩
theorem rows22 : Go.Sf.Rows Oaag.prog eqU baseF xgU t22 := ⟨k22, rows21⟩
theorem rows23 : Go.Sf.Rows Oaag.prog eqU baseF xgU t23 := ⟨k23, rows22⟩
theorem rows24 : Go.Sf.Rows Oaag.prog eqU baseF xgU t24 := ⟨k24, rows23⟩
theorem rows25 : Go.Sf.Rows Oaag.prog eqU baseF xgU t25 := ⟨k25, rows24⟩
theorem rows26 : Go.Sf.Rows Oaag.prog eqU baseF xgU t26 := ⟨k26, rows25⟩
theorem rows27 : Go.Sf.Rows Oaag.prog eqU baseF xgU t27 := ⟨k27, rows26⟩
theorem rows28 : Go.Sf.Rows Oaag.prog eqU baseF xgU t28 := ⟨k28, rows27⟩
theorem rows29 : Go.Sf.Rows Oaag.prog eqU baseF xgU t29 := ⟨k29, rows28⟩
theorem rows30 : Go.Sf.Rows Oaag.prog eqU baseF xgU t30 := ⟨k30, rows29⟩
theorem rows31 : Go.Sf.Rows Oaag.prog eqU baseF xgU t31 := ⟨k31, rows30⟩
theorem rows32 : Go.Sf.Rows Oaag.prog eqU baseF xgU t32 := ⟨k32, rows31⟩
theorem rows33 : Go.Sf.Rows Oaag.prog eqU baseF xgU t33 := ⟨k33, rows32⟩
theorem rows34 : Go.Sf.Rows Oaag.prog eqU baseF xgU t34 := ⟨k34, rows33⟩
theorem rows35 : Go.Sf.Rows Oaag.prog eqU baseF xgU t35 := ⟨k35, rows34⟩
theorem rows36 : Go.Sf.Rows Oaag.prog eqU baseF xgU t36 := ⟨k36, rows35⟩
theorem rows37 : Go.Sf.Rows Oaag.prog eqU baseF xgU t37 := ⟨k37, rows36⟩
theorem rows38 : Go.Sf.Rows Oaag.prog eqU baseF xgU t38 := ⟨k38, rows37⟩
theorem rows39 : Go.Sf.Rows Oaag.prog eqU baseF xgU t39 := ⟨k39, rows38⟩
theorem rows40 : Go.Sf.Rows Oaag.prog eqU baseF xgU t40 := ⟨k40, rows39⟩
theorem rows41 : Go.Sf.Rows Oaag.prog eqU baseF xgU t41 := ⟨k41, rows40⟩
theorem rows42 : Go.Sf.Rows Oaag.prog eqU baseF xgU t42 := ⟨k42, rows41⟩
theorem rows43 : Go.Sf.Rows Oaag.prog eqU baseF xgU t43 := ⟨k43, rows42⟩
theorem rows44 : Go.Sf.Rows Oaag.prog eqU baseF xgU t44 := ⟨k44, rows43⟩
theorem rows45 : Go.Sf.Rows Oaag.prog eqU baseF xgU t45 := ⟨k45, rows44⟩
theorem rows46 : Go.Sf.Rows Oaag.prog eqU baseF xgU t46 := ⟨k46, rows45⟩
theorem rows47 : Go.Sf.Rows Oaag.prog eqU baseF xgU t47 := ⟨k47, rows46⟩
theorem rows48 : Go.Sf.Rows Oaag.prog eqU baseF xgU t48 := ⟨k48, rows47⟩
theorem rows49 : Go.Sf.Rows Oaag.prog eqU baseF xgU t49 := ⟨k49, rows48⟩
theorem rows50 : Go.Sf.Rows Oaag.prog eqU baseF xgU t50 := ⟨k50, rows49⟩
theorem rows51 : Go.Sf.Rows Oaag.prog eqU baseF xgU t51 := ⟨k51, rows50⟩
theorem rows52 : Go.Sf.Rows Oaag.prog eqU baseF xgU t52 := ⟨k52, rows51⟩
theorem rows53 : Go.Sf.Rows Oaag.prog eqU baseF xgU t53 := ⟨k53, rows52⟩
theorem rows54 : Go.Sf.Rows Oaag.prog eqU baseF xgU t54 := ⟨k54, rows53⟩
theorem rows55 : Go.Sf.Rows Oaag.prog eqU baseF xgU t55 := ⟨k55, rows54⟩
theorem rows56 : Go.Sf.Rows Oaag.prog eqU baseF xgU t56 := ⟨k56, rows55⟩
theorem rows57 : Go.Sf.Rows Oaag.prog eqU baseF xgU t57 := ⟨k57, rows56⟩
theorem rows58 : Go.Sf.Rows Oaag.prog eqU baseF xgU t58 := ⟨k58, rows57⟩
theorem rows59 : Go.Sf.Rows Oaag.prog eqU baseF xgU t59 := ⟨k59, rows58⟩
theorem rows60 : Go.Sf.Rows Oaag.prog eqU baseF xgU t60 := ⟨k60, rows59⟩
theorem rows61 : Go.Sf.Rows Oaag.prog eqU baseF xgU t61 := ⟨k61, rows60⟩
theorem rows62 : Go.Sf.Rows Oaag.prog eqU baseF xgU t62 := ⟨k62, rows61⟩
theorem rows63 : Go.Sf.Rows Oaag.prog eqU baseF xgU t63 := ⟨k63, rows62⟩
theorem rows64 : Go.Sf.Rows Oaag.prog eqU baseF xgU t64 := ⟨k64, rows63⟩
theorem rows65 : Go.Sf.Rows Oaag.prog eqU baseF xgU t65 := ⟨k65, rows64⟩
theorem rows66 : Go.Sf.Rows Oaag.prog eqU baseF xgU t66 := ⟨k66, rows65⟩
theorem rows67 : Go.Sf.Rows Oaag.prog eqU baseF xgU t67 := ⟨k67, rows66⟩
theorem rows68 : Go.Sf.Rows Oaag.prog eqU baseF xgU t68 := ⟨k68, rows67⟩
theorem rows69 : Go.Sf.Rows Oaag.prog eqU baseF xgU t69 := ⟨k69, rows68⟩
theorem rows70 : Go.Sf.Rows Oaag.prog eqU baseF xgU t70 := ⟨k70, rows69⟩
theorem rows71 : Go.Sf.Rows Oaag.prog eqU baseF xgU t71 := ⟨k71, rows70⟩
theorem rows72 : Go.Sf.Rows Oaag.prog eqU baseF xgU t72 := ⟨k72, rows71⟩
theorem rows73 : Go.Sf.Rows Oaag.prog eqU baseF xgU t73 := ⟨k73, rows72⟩
theorem rows74 : Go.Sf.Rows Oaag.prog eqU baseF xgU t74 := ⟨k74, rows73⟩
theorem rows75 : Go.Sf.Rows Oaag.prog eqU baseF xgU t75 := ⟨k75, rows74⟩
theorem rows76 : Go.Sf.Rows Oaag.prog eqU baseF xgU t76 := ⟨k76, rows75⟩
theorem rows77 : Go.Sf.Rows Oaag.prog eqU baseF xgU t77 := ⟨k77, rows76⟩
theorem rows78 : Go.Sf.Rows Oaag.prog eqU baseF xgU t78 := ⟨k78, rows77⟩
theorem rows79 : Go.Sf.Rows Oaag.prog eqU baseF xgU t79 := ⟨k79, rows78⟩
theorem rows80 : Go.Sf.Rows Oaag.prog eqU baseF xgU t80 := ⟨k80, rows79⟩
theorem rows81 : Go.Sf.Rows Oaag.prog eqU baseF xgU t81 := ⟨k81, rows80⟩
theorem rows82 : Go.Sf.Rows Oaag.prog eqU baseF xgU t82 := ⟨k82, rows81⟩
theorem rows83 : Go.Sf.Rows Oaag.prog eqU baseF xgU t83 := ⟨k83, rows82⟩
theorem rows84 : Go.Sf.Rows Oaag.prog eqU baseF xgU t84 := ⟨k84, rows83⟩
theorem rows85 : Go.Sf.Rows Oaag.prog eqU baseF xgU t85 := ⟨k85, rows84⟩
theorem rows86 : Go.Sf.Rows Oaag.prog eqU baseF xgU t86 := ⟨k86, rows85⟩
theorem rows87 : Go.Sf.Rows Oaag.prog eqU baseF xgU t87 := ⟨k87, rows86⟩
theorem rows88 : Go.Sf.Rows Oaag.prog eqU baseF xgU t88 := ⟨k88, rows87⟩
theorem rows89 : Go.Sf.Rows Oaag.prog eqU baseF xgU t89 := ⟨k89, rows88⟩
theorem rows90 : Go.Sf.Rows Oaag.prog eqU baseF xgU t90 := ⟨k90, rows89⟩
theorem rows91 : Go.Sf.Rows Oaag.prog eqU baseF xgU t91 := ⟨k91, rows90⟩
theorem rows92 : Go.Sf.Rows Oaag.prog eqU baseF xgU t92 := ⟨k92, rows91⟩
theorem rows93 : Go.Sf.Rows Oaag.prog eqU baseF xgU t93 := ⟨k93, rows92⟩
theorem rows94 : Go.Sf.Rows Oaag.prog eqU baseF xgU t94 := ⟨k94, rows93⟩
theorem rows95 : Go.Sf.Rows Oaag.prog eqU baseF xgU t95 := ⟨k95, rows94⟩
theorem rows96 : Go.Sf.Rows Oaag.prog eqU baseF xgU t96 := ⟨k96, rows95⟩
theorem rows97 : Go.Sf.Rows Oaag.prog eqU baseF xgU t97 := ⟨k97, rows96⟩
theorem rows98 : Go.Sf.Rows Oaag.prog eqU baseF xgU t98 := ⟨k98, rows97⟩
theorem rows99 : Go.Sf.Rows Oaag.prog eqU baseF xgU t99 := ⟨k99, rows98⟩
theorem rows100 : Go.Sf.Rows Oaag.prog eqU baseF xgU t100 := ⟨k100, rows99⟩
theorem rows101 : Go.Sf.Rows Oaag.prog eqU baseF xgU t101 := ⟨k101, rows100⟩
theorem rows102 : Go.Sf.Rows Oaag.prog eqU baseF xgU t102 := ⟨k102, rows101⟩
theorem rows103 : Go.Sf.Rows Oaag.prog eqU baseF xgU t103 := ⟨k103, rows102⟩
theorem rows104 : Go.Sf.Rows Oaag.prog eqU baseF xgU t104 := ⟨k104, rows103⟩
theorem rows105 : Go.Sf.Rows Oaag.prog eqU baseF xgU t105 := ⟨k105, rows104⟩
theorem rows106 : Go.Sf.Rows Oaag.prog eqU baseF xgU t106 := ⟨k106, rows105⟩
theorem rows107 : Go.Sf.Rows Oaag.prog eqU baseF xgU t107 := ⟨k107, rows106⟩
theorem rows108 : Go.Sf.Rows Oaag.prog eqU baseF xgU t108 := ⟨k108, rows107⟩
theorem rows109 : Go.Sf.Rows Oaag.prog eqU baseF xgU t109 := ⟨k109, rows108⟩
theorem rows110 : Go.Sf.Rows Oaag.prog eqU baseF xgU t110 := ⟨k110, rows109⟩
theorem rows111 : Go.Sf.Rows Oaag.prog eqU baseF xgU t111 := ⟨k111, rows110⟩
theorem rows112 : Go.Sf.Rows Oaag.prog eqU baseF xgU t112 := ⟨k112, rows111⟩
theorem rows113 : Go.Sf.Rows Oaag.prog eqU baseF xgU t113 := ⟨k113, rows112⟩
theorem rows114 : Go.Sf.Rows Oaag.prog eqU baseF xgU t114 := ⟨k114, rows113⟩
theorem rows115 : Go.Sf.Rows Oaag.prog eqU baseF xgU t115 := ⟨k115, rows114⟩
theorem rows116 : Go.Sf.Rows Oaag.prog eqU baseF xgU t116 := ⟨k116, rows115⟩
theorem rows117 : Go.Sf.Rows Oaag.prog eqU baseF xgU t117 := ⟨k117, rows116⟩
theorem rows118 : Go.Sf.Rows Oaag.prog eqU baseF xgU t118 := ⟨k118, rows117⟩
theorem rows119 : Go.Sf.Rows Oaag.prog eqU baseF xgU t119 := ⟨k119, rows118⟩
theorem rows120 : Go.Sf.Rows Oaag.prog eqU baseF xgU t120 := ⟨k120, rows119⟩
theorem rows121 : Go.Sf.Rows Oaag.prog eqU baseF xgU t121 := ⟨k121, rows120⟩
theorem rows122 : Go.Sf.Rows Oaag.prog eqU baseF xgU t122 := ⟨k122, rows121⟩
theorem rows123 : Go.Sf.Rows Oaag.prog eqU baseF xgU t123 := ⟨k123, rows122⟩
theorem rows124 : Go.Sf.Rows Oaag.prog eqU baseF xgU t124 := ⟨k124, rows123⟩
theorem rows125 : Go.Sf.Rows Oaag.prog eqU baseF xgU t125 := ⟨k125, rows124⟩
theorem rows126 : Go.Sf.Rows Oaag.prog eqU baseF xgU t126 := ⟨k126, rows125⟩
theorem rows127 : Go.Sf.Rows Oaag.prog eqU baseF xgU t127 := ⟨k127, rows126⟩
theorem rows128 : Go.Sf.Rows Oaag.prog eqU baseF xgU t128 := ⟨k128, rows127⟩
theorem rows129 : Go.Sf.Rows Oaag.prog eqU baseF xgU t129 := ⟨k129, rows128⟩
theorem rows130 : Go.Sf.Rows Oaag.prog eqU baseF xgU t130 := ⟨k130, rows129⟩
theorem rows131 : Go.Sf.Rows Oaag.prog eqU baseF xgU t131 := ⟨k131, rows130⟩
theorem rows132 : Go.Sf.Rows Oaag.prog eqU baseF xgU t132 := ⟨k132, rows131⟩
theorem rows133 : Go.Sf.Rows Oaag.prog eqU baseF xgU t133 := ⟨k133, rows132⟩
theorem rows134 : Go.Sf.Rows Oaag.prog eqU baseF xgU t134 := ⟨k134, rows133⟩
theorem rows135 : Go.Sf.Rows Oaag.prog eqU baseF xgU t135 := ⟨k135, rows134⟩
theorem rows136 : Go.Sf.Rows Oaag.prog eqU baseF xgU t136 := ⟨k136, rows135⟩
theorem rows137 : Go.Sf.Rows Oaag.prog eqU baseF xgU t137 := ⟨k137, rows136⟩
theorem rows138 : Go.Sf.Rows Oaag.prog eqU baseF xgU t138 := ⟨k138, rows137⟩
theorem rows139 : Go.Sf.Rows Oaag.prog eqU baseF xgU t139 := ⟨k139, rows138⟩
theorem rows140 : Go.Sf.Rows Oaag.prog eqU baseF xgU t140 := ⟨k140, rows139⟩
theorem rows141 : Go.Sf.Rows Oaag.prog eqU baseF xgU t141 := ⟨k141, rows140⟩
theorem rows142 : Go.Sf.Rows Oaag.prog eqU baseF xgU t142 := ⟨k142, rows141⟩
theorem rows143 : Go.Sf.Rows Oaag.prog eqU baseF xgU t143 := ⟨k143, rows142⟩
theorem rows144 : Go.Sf.Rows Oaag.prog eqU baseF xgU t144 := ⟨k144, rows143⟩
theorem rows145 : Go.Sf.Rows Oaag.prog eqU baseF xgU t145 := ⟨k145, rows144⟩
theorem rows146 : Go.Sf.Rows Oaag.prog eqU baseF xgU t146 := ⟨k146, rows145⟩
theorem rows147 : Go.Sf.Rows Oaag.prog eqU baseF xgU t147 := ⟨k147, rows146⟩
theorem rows148 : Go.Sf.Rows Oaag.prog eqU baseF xgU t148 := ⟨k148, rows147⟩
theorem rows149 : Go.Sf.Rows Oaag.prog eqU baseF xgU t149 := ⟨k149, rows148⟩
theorem rows150 : Go.Sf.Rows Oaag.prog eqU baseF xgU t150 := ⟨k150, rows149⟩
end Go.Proofs.YgcoaaGreat.SfW
