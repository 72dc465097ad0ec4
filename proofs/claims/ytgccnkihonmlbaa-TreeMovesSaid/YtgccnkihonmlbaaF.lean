/- Own facts of the program's types, printed by a tool of our own. -/
import Derived.Test.YtgccnkihonmlbaaAn
import Derived.Test.YtgccnkihonmlbaaProg
namespace Go.Proofs.Ytgccnkihonmlbaa
open Go Go.RowKit
set_option linter.unusedSimpArgs false
set_option linter.unusedVariables false
theorem tf0 : knownT Try.prog 0 = true := by kernel_rfl
theorem tf1 : isStrT Try.prog 0 = false := by kernel_rfl
theorem tf2 : isBoolT Try.prog 0 = false := by kernel_rfl
theorem tf3 : isIfaceT Try.prog 0 = false := by kernel_rfl
theorem tf4 : ink Try.prog 0 = none := by kernel_rfl
theorem tf5 : sle Try.prog 0 = none := by kernel_rfl
theorem tf6 : are Try.prog 0 = none := by kernel_rfl
theorem tf7 : mpt Try.prog 0 = none := by kernel_rfl
theorem tf8 : lsz Try.prog 1 = some (false, 1) := by kernel_rfl
theorem tf9 : knownT Try.prog 1 = true := by kernel_rfl
theorem tf10 : isStrT Try.prog 1 = false := by kernel_rfl
theorem tf11 : isBoolT Try.prog 1 = false := by kernel_rfl
theorem tf12 : isIfaceT Try.prog 1 = false := by kernel_rfl
theorem tf13 : ink Try.prog 1 = none := by kernel_rfl
theorem tf14 : sle Try.prog 1 = none := by kernel_rfl
theorem tf15 : are Try.prog 1 = none := by kernel_rfl
theorem tf16 : zc Try.prog 1 = some [(.v .nilFunc)] := by kernel_rfl
theorem tf17 : mpt Try.prog 1 = none := by kernel_rfl
theorem tf18 : lsz Try.prog 2 = some (false, 1) := by kernel_rfl
theorem tf19 : knownT Try.prog 2 = true := by kernel_rfl
theorem tf20 : isStrT Try.prog 2 = false := by kernel_rfl
theorem tf21 : isBoolT Try.prog 2 = false := by kernel_rfl
theorem tf22 : isIfaceT Try.prog 2 = false := by kernel_rfl
theorem tf23 : ink Try.prog 2 = some .i64 := by kernel_rfl
theorem tf24 : sle Try.prog 2 = none := by kernel_rfl
theorem tf25 : are Try.prog 2 = none := by kernel_rfl
theorem tf26 : zc Try.prog 2 = some [(.int .i64 0)] := by kernel_rfl
theorem tf27 : mpt Try.prog 2 = none := by kernel_rfl
theorem tf28 : lsz Try.prog 3 = some (false, 1) := by kernel_rfl
theorem tf29 : knownT Try.prog 3 = true := by kernel_rfl
theorem tf30 : isStrT Try.prog 3 = false := by kernel_rfl
theorem tf31 : isBoolT Try.prog 3 = false := by kernel_rfl
theorem tf32 : isIfaceT Try.prog 3 = false := by kernel_rfl
theorem tf33 : ink Try.prog 3 = some .i64 := by kernel_rfl
theorem tf34 : sle Try.prog 3 = none := by kernel_rfl
theorem tf35 : are Try.prog 3 = none := by kernel_rfl
theorem tf36 : zc Try.prog 3 = some [(.int .i64 0)] := by kernel_rfl
theorem tf37 : mpt Try.prog 3 = none := by kernel_rfl
theorem tf38 : lsz Try.prog 4 = some (false, 1) := by kernel_rfl
theorem tf39 : knownT Try.prog 4 = true := by kernel_rfl
theorem tf40 : isStrT Try.prog 4 = false := by kernel_rfl
theorem tf41 : isBoolT Try.prog 4 = true := by kernel_rfl
theorem tf42 : isIfaceT Try.prog 4 = false := by kernel_rfl
theorem tf43 : ink Try.prog 4 = none := by kernel_rfl
theorem tf44 : sle Try.prog 4 = none := by kernel_rfl
theorem tf45 : are Try.prog 4 = none := by kernel_rfl
theorem tf46 : zc Try.prog 4 = some [(.bool false)] := by kernel_rfl
theorem tf47 : mpt Try.prog 4 = none := by kernel_rfl
theorem tf48 : zval Try.prog 4 = some (.bool false) := by kernel_rfl
theorem tf49 : lsz Try.prog 5 = some (false, 1) := by kernel_rfl
theorem tf50 : knownT Try.prog 5 = true := by kernel_rfl
theorem tf51 : isStrT Try.prog 5 = false := by kernel_rfl
theorem tf52 : isBoolT Try.prog 5 = false := by kernel_rfl
theorem tf53 : isIfaceT Try.prog 5 = false := by kernel_rfl
theorem tf54 : ink Try.prog 5 = some .u8 := by kernel_rfl
theorem tf55 : sle Try.prog 5 = none := by kernel_rfl
theorem tf56 : are Try.prog 5 = none := by kernel_rfl
theorem tf57 : zc Try.prog 5 = some [(.int .u8 0)] := by kernel_rfl
theorem tf58 : mpt Try.prog 5 = none := by kernel_rfl
theorem tf59 : lsz Try.prog 9 = some (false, 1) := by kernel_rfl
theorem tf60 : knownT Try.prog 9 = true := by kernel_rfl
theorem tf61 : isStrT Try.prog 9 = true := by kernel_rfl
theorem tf62 : isBoolT Try.prog 9 = false := by kernel_rfl
theorem tf63 : isIfaceT Try.prog 9 = false := by kernel_rfl
theorem tf64 : ink Try.prog 9 = none := by kernel_rfl
theorem tf65 : sle Try.prog 9 = none := by kernel_rfl
theorem tf66 : are Try.prog 9 = none := by kernel_rfl
theorem tf67 : zc Try.prog 9 = some [(.str [])] := by kernel_rfl
theorem tf68 : mpt Try.prog 9 = none := by kernel_rfl
theorem tf69 : lsz Try.prog 21 = some (false, 1) := by kernel_rfl
theorem tf70 : knownT Try.prog 21 = true := by kernel_rfl
theorem tf71 : isStrT Try.prog 21 = false := by kernel_rfl
theorem tf72 : isBoolT Try.prog 21 = false := by kernel_rfl
theorem tf73 : isIfaceT Try.prog 21 = false := by kernel_rfl
theorem tf74 : ink Try.prog 21 = some .i32 := by kernel_rfl
theorem tf75 : sle Try.prog 21 = none := by kernel_rfl
theorem tf76 : are Try.prog 21 = none := by kernel_rfl
theorem tf77 : zc Try.prog 21 = some [(.int .i32 0)] := by kernel_rfl
theorem tf78 : mpt Try.prog 21 = none := by kernel_rfl
theorem tf79 : lsz Try.prog 22 = some (false, 1) := by kernel_rfl
theorem tf80 : knownT Try.prog 22 = true := by kernel_rfl
theorem tf81 : isStrT Try.prog 22 = false := by kernel_rfl
theorem tf82 : isBoolT Try.prog 22 = false := by kernel_rfl
theorem tf83 : isIfaceT Try.prog 22 = false := by kernel_rfl
theorem tf84 : ink Try.prog 22 = none := by kernel_rfl
theorem tf85 : sle Try.prog 22 = some (38, true, 5) := by kernel_rfl
theorem tf86 : eby Try.prog 22 = some 48 := by kernel_rfl
theorem tf87 : are Try.prog 22 = none := by kernel_rfl
theorem tf88 : zc Try.prog 22 = some [(.sl 0 [] .nil)] := by kernel_rfl
theorem tf89 : mpt Try.prog 22 = none := by kernel_rfl
theorem tf90 : lsz Try.prog 23 = some (false, 1) := by kernel_rfl
theorem tf91 : knownT Try.prog 23 = true := by kernel_rfl
theorem tf92 : isStrT Try.prog 23 = false := by kernel_rfl
theorem tf93 : isBoolT Try.prog 23 = false := by kernel_rfl
theorem tf94 : isIfaceT Try.prog 23 = false := by kernel_rfl
theorem tf95 : ink Try.prog 23 = none := by kernel_rfl
theorem tf96 : sle Try.prog 23 = some (40, true, 4) := by kernel_rfl
theorem tf97 : eby Try.prog 23 = some 32 := by kernel_rfl
theorem tf98 : are Try.prog 23 = none := by kernel_rfl
theorem tf99 : zc Try.prog 23 = some [(.sl 0 [] .nil)] := by kernel_rfl
theorem tf100 : mpt Try.prog 23 = none := by kernel_rfl
theorem tf101 : lsz Try.prog 26 = some (false, 1) := by kernel_rfl
theorem tf102 : knownT Try.prog 26 = true := by kernel_rfl
theorem tf103 : isStrT Try.prog 26 = false := by kernel_rfl
theorem tf104 : isBoolT Try.prog 26 = false := by kernel_rfl
theorem tf105 : isIfaceT Try.prog 26 = false := by kernel_rfl
theorem tf106 : ink Try.prog 26 = some .i64 := by kernel_rfl
theorem tf107 : sle Try.prog 26 = none := by kernel_rfl
theorem tf108 : are Try.prog 26 = none := by kernel_rfl
theorem tf109 : zc Try.prog 26 = some [(.int .i64 0)] := by kernel_rfl
theorem tf110 : mpt Try.prog 26 = none := by kernel_rfl
theorem tf111 : lsz Try.prog 30 = some (false, 1) := by kernel_rfl
theorem tf112 : knownT Try.prog 30 = true := by kernel_rfl
theorem tf113 : isStrT Try.prog 30 = false := by kernel_rfl
theorem tf114 : isBoolT Try.prog 30 = false := by kernel_rfl
theorem tf115 : isIfaceT Try.prog 30 = false := by kernel_rfl
theorem tf116 : ink Try.prog 30 = none := by kernel_rfl
theorem tf117 : sle Try.prog 30 = some (3, false, 1) := by kernel_rfl
theorem tf118 : eby Try.prog 30 = some 8 := by kernel_rfl
theorem tf119 : are Try.prog 30 = none := by kernel_rfl
theorem tf120 : zc Try.prog 30 = some [(.sl 0 [] .nil)] := by kernel_rfl
theorem tf121 : mpt Try.prog 30 = none := by kernel_rfl
theorem tf122 : zval Try.prog 30 = some (.sl 0 [] .nil) := by kernel_rfl
theorem tf123 : lsz Try.prog 38 = some (true, 5) := by kernel_rfl
theorem tf124 : knownT Try.prog 38 = true := by kernel_rfl
theorem tf125 : isStrT Try.prog 38 = false := by kernel_rfl
theorem tf126 : isBoolT Try.prog 38 = false := by kernel_rfl
theorem tf127 : isIfaceT Try.prog 38 = false := by kernel_rfl
theorem tf128 : ink Try.prog 38 = none := by kernel_rfl
theorem tf129 : sle Try.prog 38 = none := by kernel_rfl
theorem tf130 : are Try.prog 38 = none := by kernel_rfl
theorem tf131 : zc Try.prog 38 = some [(.int .i64 0), (.int .i64 0), (.int .i64 0), (.int .i64 0), (.str [])] := by kernel_rfl
theorem tf132 : fld Try.prog 38 0 = some (0, false, 1) := by kernel_rfl
theorem tf133 : fld Try.prog 38 1 = some (1, false, 1) := by kernel_rfl
theorem tf134 : fld Try.prog 38 2 = some (2, false, 1) := by kernel_rfl
theorem tf135 : fld Try.prog 38 3 = some (3, false, 1) := by kernel_rfl
theorem tf136 : fld Try.prog 38 4 = some (4, false, 1) := by kernel_rfl
theorem tf137 : zp Try.prog 38 = some ([(.int .i64 0), (.int .i64 0), (.int .i64 0), (.int .i64 0), (.str [])], [(0, 1), (1, 1), (2, 1), (3, 1), (4, 1)]) := by kernel_rfl
theorem tf138 : mpt Try.prog 38 = none := by kernel_rfl
theorem tf139 : zval Try.prog 38 = some (.ag [(.int .i64 0), (.int .i64 0), (.int .i64 0), (.int .i64 0), (.str [])]) := by kernel_rfl
theorem tf140 : steq Try.prog 38 = some [3, 3, 3, 3, 9] := by kernel_rfl
theorem tf141 : lsz Try.prog 40 = some (true, 4) := by kernel_rfl
theorem tf142 : knownT Try.prog 40 = true := by kernel_rfl
theorem tf143 : isStrT Try.prog 40 = false := by kernel_rfl
theorem tf144 : isBoolT Try.prog 40 = false := by kernel_rfl
theorem tf145 : isIfaceT Try.prog 40 = false := by kernel_rfl
theorem tf146 : ink Try.prog 40 = none := by kernel_rfl
theorem tf147 : sle Try.prog 40 = none := by kernel_rfl
theorem tf148 : are Try.prog 40 = none := by kernel_rfl
theorem tf149 : zc Try.prog 40 = some [(.int .i64 0), (.int .i64 0), (.int .i64 0), (.bool false)] := by kernel_rfl
theorem tf150 : fld Try.prog 40 0 = some (0, false, 1) := by kernel_rfl
theorem tf151 : fld Try.prog 40 1 = some (1, false, 1) := by kernel_rfl
theorem tf152 : fld Try.prog 40 2 = some (2, false, 1) := by kernel_rfl
theorem tf153 : fld Try.prog 40 3 = some (3, false, 1) := by kernel_rfl
theorem tf154 : zp Try.prog 40 = some ([(.int .i64 0), (.int .i64 0), (.int .i64 0), (.bool false)], [(0, 1), (1, 1), (2, 1), (3, 1)]) := by kernel_rfl
theorem tf155 : mpt Try.prog 40 = none := by kernel_rfl
theorem tf156 : steq Try.prog 40 = some [3, 3, 3, 4] := by kernel_rfl
theorem tf157 : lsz Try.prog 63 = some (false, 1) := by kernel_rfl
theorem tf158 : knownT Try.prog 63 = true := by kernel_rfl
theorem tf159 : isStrT Try.prog 63 = false := by kernel_rfl
theorem tf160 : isBoolT Try.prog 63 = false := by kernel_rfl
theorem tf161 : isIfaceT Try.prog 63 = false := by kernel_rfl
theorem tf162 : ink Try.prog 63 = none := by kernel_rfl
theorem tf163 : sle Try.prog 63 = none := by kernel_rfl
theorem tf164 : are Try.prog 63 = none := by kernel_rfl
theorem tf165 : zc Try.prog 63 = some [(.v (.map none))] := by kernel_rfl
theorem tf166 : mpt Try.prog 63 = some (3, 38) := by kernel_rfl
theorem tf167 : lsz Try.prog 67 = some (false, 1) := by kernel_rfl
theorem tf168 : knownT Try.prog 67 = true := by kernel_rfl
theorem tf169 : isStrT Try.prog 67 = false := by kernel_rfl
theorem tf170 : isBoolT Try.prog 67 = false := by kernel_rfl
theorem tf171 : isIfaceT Try.prog 67 = false := by kernel_rfl
theorem tf172 : ink Try.prog 67 = none := by kernel_rfl
theorem tf173 : sle Try.prog 67 = none := by kernel_rfl
theorem tf174 : are Try.prog 67 = none := by kernel_rfl
theorem tf175 : zc Try.prog 67 = some [(.v .nilFunc)] := by kernel_rfl
theorem tf176 : mpt Try.prog 67 = none := by kernel_rfl
theorem tf177 : lsz Try.prog 71 = some (false, 1) := by kernel_rfl
theorem tf178 : knownT Try.prog 71 = true := by kernel_rfl
theorem tf179 : isStrT Try.prog 71 = false := by kernel_rfl
theorem tf180 : isBoolT Try.prog 71 = false := by kernel_rfl
theorem tf181 : isIfaceT Try.prog 71 = false := by kernel_rfl
theorem tf182 : ink Try.prog 71 = none := by kernel_rfl
theorem tf183 : sle Try.prog 71 = none := by kernel_rfl
theorem tf184 : are Try.prog 71 = none := by kernel_rfl
theorem tf185 : zc Try.prog 71 = some [(.v .nilFunc)] := by kernel_rfl
theorem tf186 : mpt Try.prog 71 = none := by kernel_rfl
theorem tf187 : lsz Try.prog 75 = some (false, 1) := by kernel_rfl
theorem tf188 : knownT Try.prog 75 = true := by kernel_rfl
theorem tf189 : isStrT Try.prog 75 = false := by kernel_rfl
theorem tf190 : isBoolT Try.prog 75 = false := by kernel_rfl
theorem tf191 : isIfaceT Try.prog 75 = false := by kernel_rfl
theorem tf192 : ink Try.prog 75 = none := by kernel_rfl
theorem tf193 : sle Try.prog 75 = none := by kernel_rfl
theorem tf194 : are Try.prog 75 = none := by kernel_rfl
theorem tf195 : zc Try.prog 75 = some [(.v (.map none))] := by kernel_rfl
theorem tf196 : mpt Try.prog 75 = some (3, 80) := by kernel_rfl
theorem tf197 : lsz Try.prog 80 = some (true, 2) := by kernel_rfl
theorem tf198 : knownT Try.prog 80 = true := by kernel_rfl
theorem tf199 : isStrT Try.prog 80 = false := by kernel_rfl
theorem tf200 : isBoolT Try.prog 80 = false := by kernel_rfl
theorem tf201 : isIfaceT Try.prog 80 = false := by kernel_rfl
theorem tf202 : ink Try.prog 80 = none := by kernel_rfl
theorem tf203 : sle Try.prog 80 = none := by kernel_rfl
theorem tf204 : are Try.prog 80 = none := by kernel_rfl
theorem tf205 : zc Try.prog 80 = some [(.int .i64 0), (.int .i64 0)] := by kernel_rfl
theorem tf206 : fld Try.prog 80 0 = some (0, false, 1) := by kernel_rfl
theorem tf207 : fld Try.prog 80 1 = some (1, false, 1) := by kernel_rfl
theorem tf208 : zp Try.prog 80 = some ([(.int .i64 0), (.int .i64 0)], [(0, 1), (1, 1)]) := by kernel_rfl
theorem tf209 : mpt Try.prog 80 = none := by kernel_rfl
theorem tf210 : zval Try.prog 80 = some (.ag [(.int .i64 0), (.int .i64 0)]) := by kernel_rfl
theorem tf211 : steq Try.prog 80 = some [3, 3] := by kernel_rfl
theorem tf212 : lsz Try.prog 82 = some (false, 1) := by kernel_rfl
theorem tf213 : knownT Try.prog 82 = true := by kernel_rfl
theorem tf214 : isStrT Try.prog 82 = false := by kernel_rfl
theorem tf215 : isBoolT Try.prog 82 = false := by kernel_rfl
theorem tf216 : isIfaceT Try.prog 82 = false := by kernel_rfl
theorem tf217 : ink Try.prog 82 = none := by kernel_rfl
theorem tf218 : sle Try.prog 82 = none := by kernel_rfl
theorem tf219 : are Try.prog 82 = none := by kernel_rfl
theorem tf220 : zc Try.prog 82 = some [(.v .nilFunc)] := by kernel_rfl
theorem tf221 : mpt Try.prog 82 = none := by kernel_rfl
theorem tf222 : lsz Try.prog 90 = some (false, 1) := by kernel_rfl
theorem tf223 : knownT Try.prog 90 = true := by kernel_rfl
theorem tf224 : isStrT Try.prog 90 = false := by kernel_rfl
theorem tf225 : isBoolT Try.prog 90 = false := by kernel_rfl
theorem tf226 : isIfaceT Try.prog 90 = false := by kernel_rfl
theorem tf227 : ink Try.prog 90 = none := by kernel_rfl
theorem tf228 : sle Try.prog 90 = none := by kernel_rfl
theorem tf229 : are Try.prog 90 = none := by kernel_rfl
theorem tf230 : zc Try.prog 90 = some [(.v (.map none))] := by kernel_rfl
theorem tf231 : mpt Try.prog 90 = some (3, 30) := by kernel_rfl
theorem tf232 : lsz Try.prog 101 = some (false, 1) := by kernel_rfl
theorem tf233 : knownT Try.prog 101 = true := by kernel_rfl
theorem tf234 : isStrT Try.prog 101 = false := by kernel_rfl
theorem tf235 : isBoolT Try.prog 101 = false := by kernel_rfl
theorem tf236 : isIfaceT Try.prog 101 = false := by kernel_rfl
theorem tf237 : ink Try.prog 101 = none := by kernel_rfl
theorem tf238 : sle Try.prog 101 = none := by kernel_rfl
theorem tf239 : are Try.prog 101 = none := by kernel_rfl
theorem tf240 : zc Try.prog 101 = some [(.v (.map none))] := by kernel_rfl
theorem tf241 : mpt Try.prog 101 = some (3, 4) := by kernel_rfl
theorem tf242 : lsz Try.prog 103 = some (false, 1) := by kernel_rfl
theorem tf243 : knownT Try.prog 103 = true := by kernel_rfl
theorem tf244 : isStrT Try.prog 103 = false := by kernel_rfl
theorem tf245 : isBoolT Try.prog 103 = false := by kernel_rfl
theorem tf246 : isIfaceT Try.prog 103 = false := by kernel_rfl
theorem tf247 : ink Try.prog 103 = none := by kernel_rfl
theorem tf248 : sle Try.prog 103 = some (22, false, 1) := by kernel_rfl
theorem tf249 : eby Try.prog 103 = some 24 := by kernel_rfl
theorem tf250 : are Try.prog 103 = none := by kernel_rfl
theorem tf251 : zc Try.prog 103 = some [(.sl 0 [] .nil)] := by kernel_rfl
theorem tf252 : mpt Try.prog 103 = none := by kernel_rfl
end Go.Proofs.Ytgccnkihonmlbaa
