/- Own facts of the program's types, printed by a tool of our own. -/
import Derived.Test.YtllimenhdemgoaaAi
import Derived.Test.YtllimenhdemgoaaProg
namespace Go.Proofs.Ytllimenhdemgoaa
open Go Go.RowKit
set_option linter.unusedSimpArgs false
set_option linter.unusedVariables false
theorem tf0 : knownT Try.prog 0 = true := by kernel_rfl
theorem tf1 : isStrT Try.prog 0 = false := by kernel_rfl
theorem tf2 : isBoolT Try.prog 0 = false := by kernel_rfl
theorem tf3 : isIfaceT Try.prog 0 = false := by kernel_rfl
theorem tf4 : ink Try.prog 0 = none := by kernel_rfl
theorem tf5 : sle Try.prog 0 = none := by kernel_rfl
theorem tf6 : are Try.prog 0 = none := by kernel_rfl
theorem tf7 : lsz Try.prog 1 = some (false, 1) := by kernel_rfl
theorem tf8 : knownT Try.prog 1 = true := by kernel_rfl
theorem tf9 : isStrT Try.prog 1 = false := by kernel_rfl
theorem tf10 : isBoolT Try.prog 1 = false := by kernel_rfl
theorem tf11 : isIfaceT Try.prog 1 = false := by kernel_rfl
theorem tf12 : ink Try.prog 1 = none := by kernel_rfl
theorem tf13 : sle Try.prog 1 = none := by kernel_rfl
theorem tf14 : are Try.prog 1 = none := by kernel_rfl
theorem tf15 : zc Try.prog 1 = some [(.v .nilFunc)] := by kernel_rfl
theorem tf16 : lsz Try.prog 2 = some (false, 1) := by kernel_rfl
theorem tf17 : knownT Try.prog 2 = true := by kernel_rfl
theorem tf18 : isStrT Try.prog 2 = false := by kernel_rfl
theorem tf19 : isBoolT Try.prog 2 = false := by kernel_rfl
theorem tf20 : isIfaceT Try.prog 2 = false := by kernel_rfl
theorem tf21 : ink Try.prog 2 = some .i64 := by kernel_rfl
theorem tf22 : sle Try.prog 2 = none := by kernel_rfl
theorem tf23 : are Try.prog 2 = none := by kernel_rfl
theorem tf24 : zc Try.prog 2 = some [(.int .i64 0)] := by kernel_rfl
theorem tf25 : lsz Try.prog 3 = some (false, 1) := by kernel_rfl
theorem tf26 : knownT Try.prog 3 = true := by kernel_rfl
theorem tf27 : isStrT Try.prog 3 = false := by kernel_rfl
theorem tf28 : isBoolT Try.prog 3 = false := by kernel_rfl
theorem tf29 : isIfaceT Try.prog 3 = false := by kernel_rfl
theorem tf30 : ink Try.prog 3 = some .i64 := by kernel_rfl
theorem tf31 : sle Try.prog 3 = none := by kernel_rfl
theorem tf32 : are Try.prog 3 = none := by kernel_rfl
theorem tf33 : zc Try.prog 3 = some [(.int .i64 0)] := by kernel_rfl
theorem tf34 : lsz Try.prog 4 = some (false, 1) := by kernel_rfl
theorem tf35 : knownT Try.prog 4 = true := by kernel_rfl
theorem tf36 : isStrT Try.prog 4 = false := by kernel_rfl
theorem tf37 : isBoolT Try.prog 4 = true := by kernel_rfl
theorem tf38 : isIfaceT Try.prog 4 = false := by kernel_rfl
theorem tf39 : ink Try.prog 4 = none := by kernel_rfl
theorem tf40 : sle Try.prog 4 = none := by kernel_rfl
theorem tf41 : are Try.prog 4 = none := by kernel_rfl
theorem tf42 : zc Try.prog 4 = some [(.bool false)] := by kernel_rfl
theorem tf43 : lsz Try.prog 5 = some (false, 1) := by kernel_rfl
theorem tf44 : knownT Try.prog 5 = true := by kernel_rfl
theorem tf45 : isStrT Try.prog 5 = false := by kernel_rfl
theorem tf46 : isBoolT Try.prog 5 = false := by kernel_rfl
theorem tf47 : isIfaceT Try.prog 5 = false := by kernel_rfl
theorem tf48 : ink Try.prog 5 = some .u8 := by kernel_rfl
theorem tf49 : sle Try.prog 5 = none := by kernel_rfl
theorem tf50 : are Try.prog 5 = none := by kernel_rfl
theorem tf51 : zc Try.prog 5 = some [(.int .u8 0)] := by kernel_rfl
theorem tf52 : lsz Try.prog 9 = some (false, 1) := by kernel_rfl
theorem tf53 : knownT Try.prog 9 = true := by kernel_rfl
theorem tf54 : isStrT Try.prog 9 = true := by kernel_rfl
theorem tf55 : isBoolT Try.prog 9 = false := by kernel_rfl
theorem tf56 : isIfaceT Try.prog 9 = false := by kernel_rfl
theorem tf57 : ink Try.prog 9 = none := by kernel_rfl
theorem tf58 : sle Try.prog 9 = none := by kernel_rfl
theorem tf59 : are Try.prog 9 = none := by kernel_rfl
theorem tf60 : zc Try.prog 9 = some [(.str [])] := by kernel_rfl
theorem tf61 : lsz Try.prog 21 = some (false, 1) := by kernel_rfl
theorem tf62 : knownT Try.prog 21 = true := by kernel_rfl
theorem tf63 : isStrT Try.prog 21 = false := by kernel_rfl
theorem tf64 : isBoolT Try.prog 21 = false := by kernel_rfl
theorem tf65 : isIfaceT Try.prog 21 = false := by kernel_rfl
theorem tf66 : ink Try.prog 21 = some .i32 := by kernel_rfl
theorem tf67 : sle Try.prog 21 = none := by kernel_rfl
theorem tf68 : are Try.prog 21 = none := by kernel_rfl
theorem tf69 : zc Try.prog 21 = some [(.int .i32 0)] := by kernel_rfl
theorem tf70 : lsz Try.prog 22 = some (false, 1) := by kernel_rfl
theorem tf71 : knownT Try.prog 22 = true := by kernel_rfl
theorem tf72 : isStrT Try.prog 22 = false := by kernel_rfl
theorem tf73 : isBoolT Try.prog 22 = false := by kernel_rfl
theorem tf74 : isIfaceT Try.prog 22 = false := by kernel_rfl
theorem tf75 : ink Try.prog 22 = none := by kernel_rfl
theorem tf76 : sle Try.prog 22 = some (46, true, 2) := by kernel_rfl
theorem tf77 : eby Try.prog 22 = some 16 := by kernel_rfl
theorem tf78 : are Try.prog 22 = none := by kernel_rfl
theorem tf79 : zc Try.prog 22 = some [(.sl 0 [] .nil)] := by kernel_rfl
theorem tf80 : lsz Try.prog 23 = some (false, 1) := by kernel_rfl
theorem tf81 : knownT Try.prog 23 = true := by kernel_rfl
theorem tf82 : isStrT Try.prog 23 = false := by kernel_rfl
theorem tf83 : isBoolT Try.prog 23 = false := by kernel_rfl
theorem tf84 : isIfaceT Try.prog 23 = false := by kernel_rfl
theorem tf85 : ink Try.prog 23 = none := by kernel_rfl
theorem tf86 : sle Try.prog 23 = some (48, true, 3) := by kernel_rfl
theorem tf87 : eby Try.prog 23 = some 16 := by kernel_rfl
theorem tf88 : are Try.prog 23 = none := by kernel_rfl
theorem tf89 : zc Try.prog 23 = some [(.sl 0 [] .nil)] := by kernel_rfl
theorem tf90 : lsz Try.prog 25 = some (true, 2) := by kernel_rfl
theorem tf91 : knownT Try.prog 25 = true := by kernel_rfl
theorem tf92 : isStrT Try.prog 25 = false := by kernel_rfl
theorem tf93 : isBoolT Try.prog 25 = false := by kernel_rfl
theorem tf94 : isIfaceT Try.prog 25 = false := by kernel_rfl
theorem tf95 : ink Try.prog 25 = none := by kernel_rfl
theorem tf96 : sle Try.prog 25 = none := by kernel_rfl
theorem tf97 : are Try.prog 25 = none := by kernel_rfl
theorem tf98 : zc Try.prog 25 = some [(.sl 0 [] .nil), (.sl 0 [] .nil)] := by kernel_rfl
theorem tf99 : fld Try.prog 25 0 = some (0, false, 1) := by kernel_rfl
theorem tf100 : fld Try.prog 25 1 = some (1, false, 1) := by kernel_rfl
theorem tf101 : zp Try.prog 25 = some ([(.sl 0 [] .nil), (.sl 0 [] .nil)], [(0, 1), (1, 1)]) := by kernel_rfl
theorem tf102 : lsz Try.prog 29 = some (false, 1) := by kernel_rfl
theorem tf103 : knownT Try.prog 29 = true := by kernel_rfl
theorem tf104 : isStrT Try.prog 29 = false := by kernel_rfl
theorem tf105 : isBoolT Try.prog 29 = false := by kernel_rfl
theorem tf106 : isIfaceT Try.prog 29 = false := by kernel_rfl
theorem tf107 : ink Try.prog 29 = some .i64 := by kernel_rfl
theorem tf108 : sle Try.prog 29 = none := by kernel_rfl
theorem tf109 : are Try.prog 29 = none := by kernel_rfl
theorem tf110 : zc Try.prog 29 = some [(.int .i64 0)] := by kernel_rfl
theorem tf111 : lsz Try.prog 37 = some (false, 1) := by kernel_rfl
theorem tf112 : knownT Try.prog 37 = true := by kernel_rfl
theorem tf113 : isStrT Try.prog 37 = false := by kernel_rfl
theorem tf114 : isBoolT Try.prog 37 = false := by kernel_rfl
theorem tf115 : isIfaceT Try.prog 37 = false := by kernel_rfl
theorem tf116 : ink Try.prog 37 = none := by kernel_rfl
theorem tf117 : sle Try.prog 37 = some (5, false, 1) := by kernel_rfl
theorem tf118 : eby Try.prog 37 = some 1 := by kernel_rfl
theorem tf119 : are Try.prog 37 = none := by kernel_rfl
theorem tf120 : zc Try.prog 37 = some [(.sl 0 [] .nil)] := by kernel_rfl
theorem tf121 : lsz Try.prog 41 = some (false, 1) := by kernel_rfl
theorem tf122 : knownT Try.prog 41 = true := by kernel_rfl
theorem tf123 : isStrT Try.prog 41 = false := by kernel_rfl
theorem tf124 : isBoolT Try.prog 41 = false := by kernel_rfl
theorem tf125 : isIfaceT Try.prog 41 = false := by kernel_rfl
theorem tf126 : ink Try.prog 41 = some .u16 := by kernel_rfl
theorem tf127 : sle Try.prog 41 = none := by kernel_rfl
theorem tf128 : are Try.prog 41 = none := by kernel_rfl
theorem tf129 : zc Try.prog 41 = some [(.int .u16 0)] := by kernel_rfl
theorem tf130 : lsz Try.prog 46 = some (true, 2) := by kernel_rfl
theorem tf131 : knownT Try.prog 46 = true := by kernel_rfl
theorem tf132 : isStrT Try.prog 46 = false := by kernel_rfl
theorem tf133 : isBoolT Try.prog 46 = false := by kernel_rfl
theorem tf134 : isIfaceT Try.prog 46 = false := by kernel_rfl
theorem tf135 : ink Try.prog 46 = none := by kernel_rfl
theorem tf136 : sle Try.prog 46 = none := by kernel_rfl
theorem tf137 : are Try.prog 46 = none := by kernel_rfl
theorem tf138 : zc Try.prog 46 = some [(.int .u8 0), (.int .i64 0)] := by kernel_rfl
theorem tf139 : fld Try.prog 46 0 = some (0, false, 1) := by kernel_rfl
theorem tf140 : fld Try.prog 46 1 = some (1, false, 1) := by kernel_rfl
theorem tf141 : zp Try.prog 46 = some ([(.int .u8 0), (.int .i64 0)], [(0, 1), (1, 1)]) := by kernel_rfl
theorem tf142 : lsz Try.prog 48 = some (true, 3) := by kernel_rfl
theorem tf143 : knownT Try.prog 48 = true := by kernel_rfl
theorem tf144 : isStrT Try.prog 48 = false := by kernel_rfl
theorem tf145 : isBoolT Try.prog 48 = false := by kernel_rfl
theorem tf146 : isIfaceT Try.prog 48 = false := by kernel_rfl
theorem tf147 : ink Try.prog 48 = none := by kernel_rfl
theorem tf148 : sle Try.prog 48 = none := by kernel_rfl
theorem tf149 : are Try.prog 48 = none := by kernel_rfl
theorem tf150 : zc Try.prog 48 = some [(.int .u8 0), (.int .u8 0), (.int .i64 0)] := by kernel_rfl
theorem tf151 : fld Try.prog 48 0 = some (0, false, 1) := by kernel_rfl
theorem tf152 : fld Try.prog 48 1 = some (1, false, 1) := by kernel_rfl
theorem tf153 : fld Try.prog 48 2 = some (2, false, 1) := by kernel_rfl
theorem tf154 : zp Try.prog 48 = some ([(.int .u8 0), (.int .u8 0), (.int .i64 0)], [(0, 1), (1, 1), (2, 1)]) := by kernel_rfl
theorem tf155 : lsz Try.prog 55 = some (false, 1) := by kernel_rfl
theorem tf156 : knownT Try.prog 55 = true := by kernel_rfl
theorem tf157 : isStrT Try.prog 55 = false := by kernel_rfl
theorem tf158 : isBoolT Try.prog 55 = false := by kernel_rfl
theorem tf159 : isIfaceT Try.prog 55 = false := by kernel_rfl
theorem tf160 : ink Try.prog 55 = none := by kernel_rfl
theorem tf161 : sle Try.prog 55 = none := by kernel_rfl
theorem tf162 : are Try.prog 55 = none := by kernel_rfl
theorem tf163 : zc Try.prog 55 = some [(.v .nilFunc)] := by kernel_rfl
theorem tf164 : lsz Try.prog 57 = some (true, 2) := by kernel_rfl
theorem tf165 : knownT Try.prog 57 = true := by kernel_rfl
theorem tf166 : isStrT Try.prog 57 = false := by kernel_rfl
theorem tf167 : isBoolT Try.prog 57 = false := by kernel_rfl
theorem tf168 : isIfaceT Try.prog 57 = false := by kernel_rfl
theorem tf169 : ink Try.prog 57 = none := by kernel_rfl
theorem tf170 : sle Try.prog 57 = none := by kernel_rfl
theorem tf171 : are Try.prog 57 = none := by kernel_rfl
theorem tf172 : zc Try.prog 57 = some [(.int .u8 0), (.int .u8 0)] := by kernel_rfl
theorem tf173 : fld Try.prog 57 0 = some (0, false, 1) := by kernel_rfl
theorem tf174 : fld Try.prog 57 1 = some (1, false, 1) := by kernel_rfl
theorem tf175 : zp Try.prog 57 = some ([(.int .u8 0), (.int .u8 0)], [(0, 1), (1, 1)]) := by kernel_rfl
theorem tf176 : lsz Try.prog 66 = some (false, 1) := by kernel_rfl
theorem tf177 : knownT Try.prog 66 = true := by kernel_rfl
theorem tf178 : isStrT Try.prog 66 = false := by kernel_rfl
theorem tf179 : isBoolT Try.prog 66 = false := by kernel_rfl
theorem tf180 : isIfaceT Try.prog 66 = false := by kernel_rfl
theorem tf181 : ink Try.prog 66 = none := by kernel_rfl
theorem tf182 : sle Try.prog 66 = none := by kernel_rfl
theorem tf183 : are Try.prog 66 = none := by kernel_rfl
theorem tf184 : zc Try.prog 66 = some [(.v .nilFunc)] := by kernel_rfl
theorem tf185 : lsz Try.prog 73 = some (false, 1) := by kernel_rfl
theorem tf186 : knownT Try.prog 73 = true := by kernel_rfl
theorem tf187 : isStrT Try.prog 73 = false := by kernel_rfl
theorem tf188 : isBoolT Try.prog 73 = false := by kernel_rfl
theorem tf189 : isIfaceT Try.prog 73 = false := by kernel_rfl
theorem tf190 : ink Try.prog 73 = none := by kernel_rfl
theorem tf191 : sle Try.prog 73 = some (3, false, 1) := by kernel_rfl
theorem tf192 : eby Try.prog 73 = some 8 := by kernel_rfl
theorem tf193 : are Try.prog 73 = none := by kernel_rfl
theorem tf194 : zc Try.prog 73 = some [(.sl 0 [] .nil)] := by kernel_rfl
theorem tf195 : lsz Try.prog 74 = some (false, 1) := by kernel_rfl
theorem tf196 : knownT Try.prog 74 = true := by kernel_rfl
theorem tf197 : isStrT Try.prog 74 = false := by kernel_rfl
theorem tf198 : isBoolT Try.prog 74 = false := by kernel_rfl
theorem tf199 : isIfaceT Try.prog 74 = false := by kernel_rfl
theorem tf200 : ink Try.prog 74 = some .u64 := by kernel_rfl
theorem tf201 : sle Try.prog 74 = none := by kernel_rfl
theorem tf202 : are Try.prog 74 = none := by kernel_rfl
theorem tf203 : zc Try.prog 74 = some [(.int .u64 0)] := by kernel_rfl
end Go.Proofs.Ytllimenhdemgoaa
