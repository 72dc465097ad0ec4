/- Own facts of the program's types, printed by a tool of our own. -/
import Derived.Test.YtjjkgeeafjagkaaGreatVc
import Derived.Test.YtjjkgeeafjagkaaGreatProg
namespace Go.Proofs.YtjjkgeeafjagkaaGreat
open Go Go.RowKit
set_option linter.unusedSimpArgs false
set_option linter.unusedVariables false
theorem tf0 : knownT Tryz.prog 0 = true := by kernel_rfl
theorem tf1 : isStrT Tryz.prog 0 = false := by kernel_rfl
theorem tf2 : isBoolT Tryz.prog 0 = false := by kernel_rfl
theorem tf3 : isIfaceT Tryz.prog 0 = false := by kernel_rfl
theorem tf4 : ink Tryz.prog 0 = none := by kernel_rfl
theorem tf5 : sle Tryz.prog 0 = none := by kernel_rfl
theorem tf6 : are Tryz.prog 0 = none := by kernel_rfl
theorem tf7 : mpt Tryz.prog 0 = none := by kernel_rfl
theorem tf8 : lsz Tryz.prog 1 = some (false, 1) := by kernel_rfl
theorem tf9 : knownT Tryz.prog 1 = true := by kernel_rfl
theorem tf10 : isStrT Tryz.prog 1 = false := by kernel_rfl
theorem tf11 : isBoolT Tryz.prog 1 = false := by kernel_rfl
theorem tf12 : isIfaceT Tryz.prog 1 = false := by kernel_rfl
theorem tf13 : ink Tryz.prog 1 = none := by kernel_rfl
theorem tf14 : sle Tryz.prog 1 = none := by kernel_rfl
theorem tf15 : are Tryz.prog 1 = none := by kernel_rfl
theorem tf16 : zc Tryz.prog 1 = some [(.v .nilFunc)] := by kernel_rfl
theorem tf17 : mpt Tryz.prog 1 = none := by kernel_rfl
theorem tf18 : lsz Tryz.prog 2 = some (false, 1) := by kernel_rfl
theorem tf19 : knownT Tryz.prog 2 = true := by kernel_rfl
theorem tf20 : isStrT Tryz.prog 2 = false := by kernel_rfl
theorem tf21 : isBoolT Tryz.prog 2 = false := by kernel_rfl
theorem tf22 : isIfaceT Tryz.prog 2 = false := by kernel_rfl
theorem tf23 : ink Tryz.prog 2 = some .i64 := by kernel_rfl
theorem tf24 : sle Tryz.prog 2 = none := by kernel_rfl
theorem tf25 : are Tryz.prog 2 = none := by kernel_rfl
theorem tf26 : zc Tryz.prog 2 = some [(.int .i64 0)] := by kernel_rfl
theorem tf27 : mpt Tryz.prog 2 = none := by kernel_rfl
theorem tf28 : lsz Tryz.prog 3 = some (false, 1) := by kernel_rfl
theorem tf29 : knownT Tryz.prog 3 = true := by kernel_rfl
theorem tf30 : isStrT Tryz.prog 3 = false := by kernel_rfl
theorem tf31 : isBoolT Tryz.prog 3 = false := by kernel_rfl
theorem tf32 : isIfaceT Tryz.prog 3 = false := by kernel_rfl
theorem tf33 : ink Tryz.prog 3 = some .i64 := by kernel_rfl
theorem tf34 : sle Tryz.prog 3 = none := by kernel_rfl
theorem tf35 : are Tryz.prog 3 = none := by kernel_rfl
theorem tf36 : zc Tryz.prog 3 = some [(.int .i64 0)] := by kernel_rfl
theorem tf37 : mpt Tryz.prog 3 = none := by kernel_rfl
theorem tf38 : zval Tryz.prog 3 = some (.int .i64 0) := by kernel_rfl
theorem tf39 : lsz Tryz.prog 4 = some (false, 1) := by kernel_rfl
theorem tf40 : knownT Tryz.prog 4 = true := by kernel_rfl
theorem tf41 : isStrT Tryz.prog 4 = false := by kernel_rfl
theorem tf42 : isBoolT Tryz.prog 4 = true := by kernel_rfl
theorem tf43 : isIfaceT Tryz.prog 4 = false := by kernel_rfl
theorem tf44 : ink Tryz.prog 4 = none := by kernel_rfl
theorem tf45 : sle Tryz.prog 4 = none := by kernel_rfl
theorem tf46 : are Tryz.prog 4 = none := by kernel_rfl
theorem tf47 : zc Tryz.prog 4 = some [(.bool false)] := by kernel_rfl
theorem tf48 : mpt Tryz.prog 4 = none := by kernel_rfl
theorem tf49 : zval Tryz.prog 4 = some (.bool false) := by kernel_rfl
theorem tf50 : lsz Tryz.prog 5 = some (false, 1) := by kernel_rfl
theorem tf51 : knownT Tryz.prog 5 = true := by kernel_rfl
theorem tf52 : isStrT Tryz.prog 5 = false := by kernel_rfl
theorem tf53 : isBoolT Tryz.prog 5 = false := by kernel_rfl
theorem tf54 : isIfaceT Tryz.prog 5 = false := by kernel_rfl
theorem tf55 : ink Tryz.prog 5 = some .u8 := by kernel_rfl
theorem tf56 : sle Tryz.prog 5 = none := by kernel_rfl
theorem tf57 : are Tryz.prog 5 = none := by kernel_rfl
theorem tf58 : zc Tryz.prog 5 = some [(.int .u8 0)] := by kernel_rfl
theorem tf59 : mpt Tryz.prog 5 = none := by kernel_rfl
theorem tf60 : lsz Tryz.prog 9 = some (false, 1) := by kernel_rfl
theorem tf61 : knownT Tryz.prog 9 = true := by kernel_rfl
theorem tf62 : isStrT Tryz.prog 9 = true := by kernel_rfl
theorem tf63 : isBoolT Tryz.prog 9 = false := by kernel_rfl
theorem tf64 : isIfaceT Tryz.prog 9 = false := by kernel_rfl
theorem tf65 : ink Tryz.prog 9 = none := by kernel_rfl
theorem tf66 : sle Tryz.prog 9 = none := by kernel_rfl
theorem tf67 : are Tryz.prog 9 = none := by kernel_rfl
theorem tf68 : zc Tryz.prog 9 = some [(.str [])] := by kernel_rfl
theorem tf69 : mpt Tryz.prog 9 = none := by kernel_rfl
theorem tf70 : lsz Tryz.prog 21 = some (false, 1) := by kernel_rfl
theorem tf71 : knownT Tryz.prog 21 = true := by kernel_rfl
theorem tf72 : isStrT Tryz.prog 21 = false := by kernel_rfl
theorem tf73 : isBoolT Tryz.prog 21 = false := by kernel_rfl
theorem tf74 : isIfaceT Tryz.prog 21 = false := by kernel_rfl
theorem tf75 : ink Tryz.prog 21 = some .i32 := by kernel_rfl
theorem tf76 : sle Tryz.prog 21 = none := by kernel_rfl
theorem tf77 : are Tryz.prog 21 = none := by kernel_rfl
theorem tf78 : zc Tryz.prog 21 = some [(.int .i32 0)] := by kernel_rfl
theorem tf79 : mpt Tryz.prog 21 = none := by kernel_rfl
theorem tf80 : lsz Tryz.prog 22 = some (false, 1) := by kernel_rfl
theorem tf81 : knownT Tryz.prog 22 = true := by kernel_rfl
theorem tf82 : isStrT Tryz.prog 22 = false := by kernel_rfl
theorem tf83 : isBoolT Tryz.prog 22 = false := by kernel_rfl
theorem tf84 : isIfaceT Tryz.prog 22 = false := by kernel_rfl
theorem tf85 : ink Tryz.prog 22 = none := by kernel_rfl
theorem tf86 : sle Tryz.prog 22 = some (45, true, 6) := by kernel_rfl
theorem tf87 : eby Tryz.prog 22 = some 112 := by kernel_rfl
theorem tf88 : are Tryz.prog 22 = none := by kernel_rfl
theorem tf89 : zc Tryz.prog 22 = some [(.sl 0 [] .nil)] := by kernel_rfl
theorem tf90 : mpt Tryz.prog 22 = none := by kernel_rfl
theorem tf91 : lsz Tryz.prog 23 = some (false, 1) := by kernel_rfl
theorem tf92 : knownT Tryz.prog 23 = true := by kernel_rfl
theorem tf93 : isStrT Tryz.prog 23 = false := by kernel_rfl
theorem tf94 : isBoolT Tryz.prog 23 = false := by kernel_rfl
theorem tf95 : isIfaceT Tryz.prog 23 = false := by kernel_rfl
theorem tf96 : ink Tryz.prog 23 = none := by kernel_rfl
theorem tf97 : sle Tryz.prog 23 = some (67, true, 5) := by kernel_rfl
theorem tf98 : eby Tryz.prog 23 = some 48 := by kernel_rfl
theorem tf99 : are Tryz.prog 23 = none := by kernel_rfl
theorem tf100 : zc Tryz.prog 23 = some [(.sl 0 [] .nil)] := by kernel_rfl
theorem tf101 : mpt Tryz.prog 23 = none := by kernel_rfl
theorem tf102 : lsz Tryz.prog 24 = some (false, 1) := by kernel_rfl
theorem tf103 : knownT Tryz.prog 24 = true := by kernel_rfl
theorem tf104 : isStrT Tryz.prog 24 = false := by kernel_rfl
theorem tf105 : isBoolT Tryz.prog 24 = false := by kernel_rfl
theorem tf106 : isIfaceT Tryz.prog 24 = false := by kernel_rfl
theorem tf107 : ink Tryz.prog 24 = none := by kernel_rfl
theorem tf108 : sle Tryz.prog 24 = some (96, true, 4) := by kernel_rfl
theorem tf109 : eby Tryz.prog 24 = some 80 := by kernel_rfl
theorem tf110 : are Tryz.prog 24 = none := by kernel_rfl
theorem tf111 : zc Tryz.prog 24 = some [(.sl 0 [] .nil)] := by kernel_rfl
theorem tf112 : mpt Tryz.prog 24 = none := by kernel_rfl
theorem tf113 : lsz Tryz.prog 25 = some (false, 1) := by kernel_rfl
theorem tf114 : knownT Tryz.prog 25 = true := by kernel_rfl
theorem tf115 : isStrT Tryz.prog 25 = false := by kernel_rfl
theorem tf116 : isBoolT Tryz.prog 25 = false := by kernel_rfl
theorem tf117 : isIfaceT Tryz.prog 25 = false := by kernel_rfl
theorem tf118 : ink Tryz.prog 25 = none := by kernel_rfl
theorem tf119 : sle Tryz.prog 25 = some (62, true, 2) := by kernel_rfl
theorem tf120 : eby Tryz.prog 25 = some 48 := by kernel_rfl
theorem tf121 : are Tryz.prog 25 = none := by kernel_rfl
theorem tf122 : zc Tryz.prog 25 = some [(.sl 0 [] .nil)] := by kernel_rfl
theorem tf123 : mpt Tryz.prog 25 = none := by kernel_rfl
theorem tf124 : lsz Tryz.prog 26 = some (false, 1) := by kernel_rfl
theorem tf125 : knownT Tryz.prog 26 = true := by kernel_rfl
theorem tf126 : isStrT Tryz.prog 26 = false := by kernel_rfl
theorem tf127 : isBoolT Tryz.prog 26 = false := by kernel_rfl
theorem tf128 : isIfaceT Tryz.prog 26 = false := by kernel_rfl
theorem tf129 : ink Tryz.prog 26 = none := by kernel_rfl
theorem tf130 : sle Tryz.prog 26 = some (65, true, 3) := by kernel_rfl
theorem tf131 : eby Tryz.prog 26 = some 40 := by kernel_rfl
theorem tf132 : are Tryz.prog 26 = none := by kernel_rfl
theorem tf133 : zc Tryz.prog 26 = some [(.sl 0 [] .nil)] := by kernel_rfl
theorem tf134 : mpt Tryz.prog 26 = none := by kernel_rfl
theorem tf135 : lsz Tryz.prog 28 = some (true, 4) := by kernel_rfl
theorem tf136 : knownT Tryz.prog 28 = true := by kernel_rfl
theorem tf137 : isStrT Tryz.prog 28 = false := by kernel_rfl
theorem tf138 : isBoolT Tryz.prog 28 = false := by kernel_rfl
theorem tf139 : isIfaceT Tryz.prog 28 = false := by kernel_rfl
theorem tf140 : ink Tryz.prog 28 = none := by kernel_rfl
theorem tf141 : sle Tryz.prog 28 = none := by kernel_rfl
theorem tf142 : are Tryz.prog 28 = none := by kernel_rfl
theorem tf143 : zc Tryz.prog 28 = some [(.sl 0 [] .nil), (.sl 0 [] .nil), (.sl 0 [] .nil), (.sl 0 [] .nil)] := by kernel_rfl
theorem tf144 : fld Tryz.prog 28 0 = some (0, false, 1) := by kernel_rfl
theorem tf145 : fld Tryz.prog 28 1 = some (1, false, 1) := by kernel_rfl
theorem tf146 : fld Tryz.prog 28 2 = some (2, false, 1) := by kernel_rfl
theorem tf147 : fld Tryz.prog 28 3 = some (3, false, 1) := by kernel_rfl
theorem tf148 : zp Tryz.prog 28 = some ([(.sl 0 [] .nil), (.sl 0 [] .nil), (.sl 0 [] .nil), (.sl 0 [] .nil)], [(0, 1), (1, 1), (2, 1), (3, 1)]) := by kernel_rfl
theorem tf149 : mpt Tryz.prog 28 = none := by kernel_rfl
theorem tf150 : lsz Tryz.prog 32 = some (false, 1) := by kernel_rfl
theorem tf151 : knownT Tryz.prog 32 = true := by kernel_rfl
theorem tf152 : isStrT Tryz.prog 32 = false := by kernel_rfl
theorem tf153 : isBoolT Tryz.prog 32 = false := by kernel_rfl
theorem tf154 : isIfaceT Tryz.prog 32 = false := by kernel_rfl
theorem tf155 : ink Tryz.prog 32 = some .i64 := by kernel_rfl
theorem tf156 : sle Tryz.prog 32 = none := by kernel_rfl
theorem tf157 : are Tryz.prog 32 = none := by kernel_rfl
theorem tf158 : zc Tryz.prog 32 = some [(.int .i64 0)] := by kernel_rfl
theorem tf159 : mpt Tryz.prog 32 = none := by kernel_rfl
theorem tf160 : lsz Tryz.prog 43 = some (false, 1) := by kernel_rfl
theorem tf161 : knownT Tryz.prog 43 = true := by kernel_rfl
theorem tf162 : isStrT Tryz.prog 43 = false := by kernel_rfl
theorem tf163 : isBoolT Tryz.prog 43 = false := by kernel_rfl
theorem tf164 : isIfaceT Tryz.prog 43 = false := by kernel_rfl
theorem tf165 : ink Tryz.prog 43 = none := by kernel_rfl
theorem tf166 : sle Tryz.prog 43 = some (47, true, 2) := by kernel_rfl
theorem tf167 : eby Tryz.prog 43 = some 2 := by kernel_rfl
theorem tf168 : are Tryz.prog 43 = none := by kernel_rfl
theorem tf169 : zc Tryz.prog 43 = some [(.sl 0 [] .nil)] := by kernel_rfl
theorem tf170 : mpt Tryz.prog 43 = none := by kernel_rfl
theorem tf171 : lsz Tryz.prog 45 = some (true, 6) := by kernel_rfl
theorem tf172 : knownT Tryz.prog 45 = true := by kernel_rfl
theorem tf173 : isStrT Tryz.prog 45 = false := by kernel_rfl
theorem tf174 : isBoolT Tryz.prog 45 = false := by kernel_rfl
theorem tf175 : isIfaceT Tryz.prog 45 = false := by kernel_rfl
theorem tf176 : ink Tryz.prog 45 = none := by kernel_rfl
theorem tf177 : sle Tryz.prog 45 = none := by kernel_rfl
theorem tf178 : are Tryz.prog 45 = none := by kernel_rfl
theorem tf179 : zc Tryz.prog 45 = some [(.int .i64 0), (.int .i64 0), (.sl 0 [] .nil), (.sl 0 [] .nil), (.sl 0 [] .nil), (.sl 0 [] .nil)] := by kernel_rfl
theorem tf180 : fld Tryz.prog 45 0 = some (0, false, 1) := by kernel_rfl
theorem tf181 : fld Tryz.prog 45 1 = some (1, false, 1) := by kernel_rfl
theorem tf182 : fld Tryz.prog 45 2 = some (2, true, 4) := by kernel_rfl
theorem tf183 : zp Tryz.prog 45 = some ([(.int .i64 0), (.int .i64 0), (.sl 0 [] .nil), (.sl 0 [] .nil), (.sl 0 [] .nil), (.sl 0 [] .nil)], [(0, 1), (1, 1), (2, 4)]) := by kernel_rfl
theorem tf184 : mpt Tryz.prog 45 = none := by kernel_rfl
theorem tf185 : lsz Tryz.prog 47 = some (true, 2) := by kernel_rfl
theorem tf186 : knownT Tryz.prog 47 = true := by kernel_rfl
theorem tf187 : isStrT Tryz.prog 47 = false := by kernel_rfl
theorem tf188 : isBoolT Tryz.prog 47 = false := by kernel_rfl
theorem tf189 : isIfaceT Tryz.prog 47 = false := by kernel_rfl
theorem tf190 : ink Tryz.prog 47 = none := by kernel_rfl
theorem tf191 : sle Tryz.prog 47 = none := by kernel_rfl
theorem tf192 : are Tryz.prog 47 = none := by kernel_rfl
theorem tf193 : zc Tryz.prog 47 = some [(.int .u8 0), (.int .u8 0)] := by kernel_rfl
theorem tf194 : fld Tryz.prog 47 0 = some (0, false, 1) := by kernel_rfl
theorem tf195 : fld Tryz.prog 47 1 = some (1, false, 1) := by kernel_rfl
theorem tf196 : zp Tryz.prog 47 = some ([(.int .u8 0), (.int .u8 0)], [(0, 1), (1, 1)]) := by kernel_rfl
theorem tf197 : mpt Tryz.prog 47 = none := by kernel_rfl
theorem tf198 : steq Tryz.prog 47 = some [5, 5] := by kernel_rfl
theorem tf199 : lsz Tryz.prog 52 = some (false, 1) := by kernel_rfl
theorem tf200 : knownT Tryz.prog 52 = true := by kernel_rfl
theorem tf201 : isStrT Tryz.prog 52 = false := by kernel_rfl
theorem tf202 : isBoolT Tryz.prog 52 = false := by kernel_rfl
theorem tf203 : isIfaceT Tryz.prog 52 = false := by kernel_rfl
theorem tf204 : ink Tryz.prog 52 = none := by kernel_rfl
theorem tf205 : sle Tryz.prog 52 = none := by kernel_rfl
theorem tf206 : are Tryz.prog 52 = none := by kernel_rfl
theorem tf207 : zc Tryz.prog 52 = some [(.v (.map none))] := by kernel_rfl
theorem tf208 : mpt Tryz.prog 52 = some (3, 3) := by kernel_rfl
theorem tf209 : lsz Tryz.prog 58 = some (false, 1) := by kernel_rfl
theorem tf210 : knownT Tryz.prog 58 = true := by kernel_rfl
theorem tf211 : isStrT Tryz.prog 58 = false := by kernel_rfl
theorem tf212 : isBoolT Tryz.prog 58 = false := by kernel_rfl
theorem tf213 : isIfaceT Tryz.prog 58 = false := by kernel_rfl
theorem tf214 : ink Tryz.prog 58 = none := by kernel_rfl
theorem tf215 : sle Tryz.prog 58 = none := by kernel_rfl
theorem tf216 : are Tryz.prog 58 = none := by kernel_rfl
theorem tf217 : zc Tryz.prog 58 = some [(.v .nilFunc)] := by kernel_rfl
theorem tf218 : mpt Tryz.prog 58 = none := by kernel_rfl
theorem tf219 : lsz Tryz.prog 59 = some (false, 1) := by kernel_rfl
theorem tf220 : knownT Tryz.prog 59 = true := by kernel_rfl
theorem tf221 : isStrT Tryz.prog 59 = false := by kernel_rfl
theorem tf222 : isBoolT Tryz.prog 59 = false := by kernel_rfl
theorem tf223 : isIfaceT Tryz.prog 59 = false := by kernel_rfl
theorem tf224 : ink Tryz.prog 59 = none := by kernel_rfl
theorem tf225 : sle Tryz.prog 59 = some (87, true, 2) := by kernel_rfl
theorem tf226 : eby Tryz.prog 59 = some 16 := by kernel_rfl
theorem tf227 : are Tryz.prog 59 = none := by kernel_rfl
theorem tf228 : zc Tryz.prog 59 = some [(.sl 0 [] .nil)] := by kernel_rfl
theorem tf229 : mpt Tryz.prog 59 = none := by kernel_rfl
theorem tf230 : lsz Tryz.prog 60 = some (false, 1) := by kernel_rfl
theorem tf231 : knownT Tryz.prog 60 = true := by kernel_rfl
theorem tf232 : isStrT Tryz.prog 60 = false := by kernel_rfl
theorem tf233 : isBoolT Tryz.prog 60 = false := by kernel_rfl
theorem tf234 : isIfaceT Tryz.prog 60 = false := by kernel_rfl
theorem tf235 : ink Tryz.prog 60 = none := by kernel_rfl
theorem tf236 : sle Tryz.prog 60 = some (89, true, 3) := by kernel_rfl
theorem tf237 : eby Tryz.prog 60 = some 16 := by kernel_rfl
theorem tf238 : are Tryz.prog 60 = none := by kernel_rfl
theorem tf239 : zc Tryz.prog 60 = some [(.sl 0 [] .nil)] := by kernel_rfl
theorem tf240 : mpt Tryz.prog 60 = none := by kernel_rfl
theorem tf241 : lsz Tryz.prog 62 = some (true, 2) := by kernel_rfl
theorem tf242 : knownT Tryz.prog 62 = true := by kernel_rfl
theorem tf243 : isStrT Tryz.prog 62 = false := by kernel_rfl
theorem tf244 : isBoolT Tryz.prog 62 = false := by kernel_rfl
theorem tf245 : isIfaceT Tryz.prog 62 = false := by kernel_rfl
theorem tf246 : ink Tryz.prog 62 = none := by kernel_rfl
theorem tf247 : sle Tryz.prog 62 = none := by kernel_rfl
theorem tf248 : are Tryz.prog 62 = none := by kernel_rfl
theorem tf249 : zc Tryz.prog 62 = some [(.sl 0 [] .nil), (.sl 0 [] .nil)] := by kernel_rfl
theorem tf250 : fld Tryz.prog 62 0 = some (0, false, 1) := by kernel_rfl
theorem tf251 : fld Tryz.prog 62 1 = some (1, false, 1) := by kernel_rfl
theorem tf252 : zp Tryz.prog 62 = some ([(.sl 0 [] .nil), (.sl 0 [] .nil)], [(0, 1), (1, 1)]) := by kernel_rfl
theorem tf253 : mpt Tryz.prog 62 = none := by kernel_rfl
theorem tf254 : lsz Tryz.prog 63 = some (false, 1) := by kernel_rfl
theorem tf255 : knownT Tryz.prog 63 = true := by kernel_rfl
theorem tf256 : isStrT Tryz.prog 63 = false := by kernel_rfl
theorem tf257 : isBoolT Tryz.prog 63 = false := by kernel_rfl
theorem tf258 : isIfaceT Tryz.prog 63 = false := by kernel_rfl
theorem tf259 : ink Tryz.prog 63 = none := by kernel_rfl
theorem tf260 : sle Tryz.prog 63 = some (9, false, 1) := by kernel_rfl
theorem tf261 : eby Tryz.prog 63 = some 16 := by kernel_rfl
theorem tf262 : are Tryz.prog 63 = none := by kernel_rfl
theorem tf263 : zc Tryz.prog 63 = some [(.sl 0 [] .nil)] := by kernel_rfl
theorem tf264 : mpt Tryz.prog 63 = none := by kernel_rfl
theorem tf265 : lsz Tryz.prog 65 = some (true, 3) := by kernel_rfl
theorem tf266 : knownT Tryz.prog 65 = true := by kernel_rfl
theorem tf267 : isStrT Tryz.prog 65 = false := by kernel_rfl
theorem tf268 : isBoolT Tryz.prog 65 = false := by kernel_rfl
theorem tf269 : isIfaceT Tryz.prog 65 = false := by kernel_rfl
theorem tf270 : ink Tryz.prog 65 = none := by kernel_rfl
theorem tf271 : sle Tryz.prog 65 = none := by kernel_rfl
theorem tf272 : are Tryz.prog 65 = none := by kernel_rfl
theorem tf273 : zc Tryz.prog 65 = some [(.int .i64 0), (.int .i64 0), (.sl 0 [] .nil)] := by kernel_rfl
theorem tf274 : fld Tryz.prog 65 0 = some (0, false, 1) := by kernel_rfl
theorem tf275 : fld Tryz.prog 65 1 = some (1, false, 1) := by kernel_rfl
theorem tf276 : fld Tryz.prog 65 2 = some (2, false, 1) := by kernel_rfl
theorem tf277 : zp Tryz.prog 65 = some ([(.int .i64 0), (.int .i64 0), (.sl 0 [] .nil)], [(0, 1), (1, 1), (2, 1)]) := by kernel_rfl
theorem tf278 : mpt Tryz.prog 65 = none := by kernel_rfl
theorem tf279 : lsz Tryz.prog 67 = some (true, 5) := by kernel_rfl
theorem tf280 : knownT Tryz.prog 67 = true := by kernel_rfl
theorem tf281 : isStrT Tryz.prog 67 = false := by kernel_rfl
theorem tf282 : isBoolT Tryz.prog 67 = false := by kernel_rfl
theorem tf283 : isIfaceT Tryz.prog 67 = false := by kernel_rfl
theorem tf284 : ink Tryz.prog 67 = none := by kernel_rfl
theorem tf285 : sle Tryz.prog 67 = none := by kernel_rfl
theorem tf286 : are Tryz.prog 67 = none := by kernel_rfl
theorem tf287 : zc Tryz.prog 67 = some [(.int .i64 0), (.int .i64 0), (.int .i64 0), (.int .i64 0), (.str [])] := by kernel_rfl
theorem tf288 : fld Tryz.prog 67 0 = some (0, false, 1) := by kernel_rfl
theorem tf289 : fld Tryz.prog 67 1 = some (1, false, 1) := by kernel_rfl
theorem tf290 : fld Tryz.prog 67 2 = some (2, false, 1) := by kernel_rfl
theorem tf291 : fld Tryz.prog 67 3 = some (3, false, 1) := by kernel_rfl
theorem tf292 : fld Tryz.prog 67 4 = some (4, false, 1) := by kernel_rfl
theorem tf293 : zp Tryz.prog 67 = some ([(.int .i64 0), (.int .i64 0), (.int .i64 0), (.int .i64 0), (.str [])], [(0, 1), (1, 1), (2, 1), (3, 1), (4, 1)]) := by kernel_rfl
theorem tf294 : mpt Tryz.prog 67 = none := by kernel_rfl
theorem tf295 : steq Tryz.prog 67 = some [3, 3, 3, 3, 9] := by kernel_rfl
theorem tf296 : lsz Tryz.prog 71 = some (false, 1) := by kernel_rfl
theorem tf297 : knownT Tryz.prog 71 = true := by kernel_rfl
theorem tf298 : isStrT Tryz.prog 71 = false := by kernel_rfl
theorem tf299 : isBoolT Tryz.prog 71 = false := by kernel_rfl
theorem tf300 : isIfaceT Tryz.prog 71 = false := by kernel_rfl
theorem tf301 : ink Tryz.prog 71 = none := by kernel_rfl
theorem tf302 : sle Tryz.prog 71 = none := by kernel_rfl
theorem tf303 : are Tryz.prog 71 = none := by kernel_rfl
theorem tf304 : zc Tryz.prog 71 = some [(.v .nilFunc)] := by kernel_rfl
theorem tf305 : mpt Tryz.prog 71 = none := by kernel_rfl
theorem tf306 : lsz Tryz.prog 79 = some (false, 1) := by kernel_rfl
theorem tf307 : knownT Tryz.prog 79 = true := by kernel_rfl
theorem tf308 : isStrT Tryz.prog 79 = false := by kernel_rfl
theorem tf309 : isBoolT Tryz.prog 79 = false := by kernel_rfl
theorem tf310 : isIfaceT Tryz.prog 79 = false := by kernel_rfl
theorem tf311 : ink Tryz.prog 79 = none := by kernel_rfl
theorem tf312 : sle Tryz.prog 79 = none := by kernel_rfl
theorem tf313 : are Tryz.prog 79 = none := by kernel_rfl
theorem tf314 : zc Tryz.prog 79 = some [(.v .nilFunc)] := by kernel_rfl
theorem tf315 : mpt Tryz.prog 79 = none := by kernel_rfl
theorem tf316 : lsz Tryz.prog 85 = some (false, 1) := by kernel_rfl
theorem tf317 : knownT Tryz.prog 85 = true := by kernel_rfl
theorem tf318 : isStrT Tryz.prog 85 = false := by kernel_rfl
theorem tf319 : isBoolT Tryz.prog 85 = false := by kernel_rfl
theorem tf320 : isIfaceT Tryz.prog 85 = false := by kernel_rfl
theorem tf321 : ink Tryz.prog 85 = none := by kernel_rfl
theorem tf322 : sle Tryz.prog 85 = none := by kernel_rfl
theorem tf323 : are Tryz.prog 85 = none := by kernel_rfl
theorem tf324 : zc Tryz.prog 85 = some [(.v .nilFunc)] := by kernel_rfl
theorem tf325 : mpt Tryz.prog 85 = none := by kernel_rfl
theorem tf326 : lsz Tryz.prog 87 = some (true, 2) := by kernel_rfl
theorem tf327 : knownT Tryz.prog 87 = true := by kernel_rfl
theorem tf328 : isStrT Tryz.prog 87 = false := by kernel_rfl
theorem tf329 : isBoolT Tryz.prog 87 = false := by kernel_rfl
theorem tf330 : isIfaceT Tryz.prog 87 = false := by kernel_rfl
theorem tf331 : ink Tryz.prog 87 = none := by kernel_rfl
theorem tf332 : sle Tryz.prog 87 = none := by kernel_rfl
theorem tf333 : are Tryz.prog 87 = none := by kernel_rfl
theorem tf334 : zc Tryz.prog 87 = some [(.int .u8 0), (.int .i64 0)] := by kernel_rfl
theorem tf335 : fld Tryz.prog 87 0 = some (0, false, 1) := by kernel_rfl
theorem tf336 : fld Tryz.prog 87 1 = some (1, false, 1) := by kernel_rfl
theorem tf337 : zp Tryz.prog 87 = some ([(.int .u8 0), (.int .i64 0)], [(0, 1), (1, 1)]) := by kernel_rfl
theorem tf338 : mpt Tryz.prog 87 = none := by kernel_rfl
theorem tf339 : steq Tryz.prog 87 = some [5, 3] := by kernel_rfl
theorem tf340 : lsz Tryz.prog 89 = some (true, 3) := by kernel_rfl
theorem tf341 : knownT Tryz.prog 89 = true := by kernel_rfl
theorem tf342 : isStrT Tryz.prog 89 = false := by kernel_rfl
theorem tf343 : isBoolT Tryz.prog 89 = false := by kernel_rfl
theorem tf344 : isIfaceT Tryz.prog 89 = false := by kernel_rfl
theorem tf345 : ink Tryz.prog 89 = none := by kernel_rfl
theorem tf346 : sle Tryz.prog 89 = none := by kernel_rfl
theorem tf347 : are Tryz.prog 89 = none := by kernel_rfl
theorem tf348 : zc Tryz.prog 89 = some [(.int .u8 0), (.int .u8 0), (.int .i64 0)] := by kernel_rfl
theorem tf349 : fld Tryz.prog 89 0 = some (0, false, 1) := by kernel_rfl
theorem tf350 : fld Tryz.prog 89 1 = some (1, false, 1) := by kernel_rfl
theorem tf351 : fld Tryz.prog 89 2 = some (2, false, 1) := by kernel_rfl
theorem tf352 : zp Tryz.prog 89 = some ([(.int .u8 0), (.int .u8 0), (.int .i64 0)], [(0, 1), (1, 1), (2, 1)]) := by kernel_rfl
theorem tf353 : mpt Tryz.prog 89 = none := by kernel_rfl
theorem tf354 : steq Tryz.prog 89 = some [5, 5, 3] := by kernel_rfl
theorem tf355 : lsz Tryz.prog 92 = some (false, 1) := by kernel_rfl
theorem tf356 : knownT Tryz.prog 92 = true := by kernel_rfl
theorem tf357 : isStrT Tryz.prog 92 = false := by kernel_rfl
theorem tf358 : isBoolT Tryz.prog 92 = false := by kernel_rfl
theorem tf359 : isIfaceT Tryz.prog 92 = false := by kernel_rfl
theorem tf360 : ink Tryz.prog 92 = none := by kernel_rfl
theorem tf361 : sle Tryz.prog 92 = some (126, true, 4) := by kernel_rfl
theorem tf362 : eby Tryz.prog 92 = some 32 := by kernel_rfl
theorem tf363 : are Tryz.prog 92 = none := by kernel_rfl
theorem tf364 : zc Tryz.prog 92 = some [(.sl 0 [] .nil)] := by kernel_rfl
theorem tf365 : mpt Tryz.prog 92 = none := by kernel_rfl
theorem tf366 : lsz Tryz.prog 93 = some (false, 1) := by kernel_rfl
theorem tf367 : knownT Tryz.prog 93 = true := by kernel_rfl
theorem tf368 : isStrT Tryz.prog 93 = false := by kernel_rfl
theorem tf369 : isBoolT Tryz.prog 93 = false := by kernel_rfl
theorem tf370 : isIfaceT Tryz.prog 93 = false := by kernel_rfl
theorem tf371 : ink Tryz.prog 93 = none := by kernel_rfl
theorem tf372 : sle Tryz.prog 93 = some (128, true, 2) := by kernel_rfl
theorem tf373 : eby Tryz.prog 93 = some 16 := by kernel_rfl
theorem tf374 : are Tryz.prog 93 = none := by kernel_rfl
theorem tf375 : zc Tryz.prog 93 = some [(.sl 0 [] .nil)] := by kernel_rfl
theorem tf376 : mpt Tryz.prog 93 = none := by kernel_rfl
theorem tf377 : lsz Tryz.prog 94 = some (false, 1) := by kernel_rfl
theorem tf378 : knownT Tryz.prog 94 = true := by kernel_rfl
theorem tf379 : isStrT Tryz.prog 94 = false := by kernel_rfl
theorem tf380 : isBoolT Tryz.prog 94 = false := by kernel_rfl
theorem tf381 : isIfaceT Tryz.prog 94 = false := by kernel_rfl
theorem tf382 : ink Tryz.prog 94 = none := by kernel_rfl
theorem tf383 : sle Tryz.prog 94 = some (109, true, 4) := by kernel_rfl
theorem tf384 : eby Tryz.prog 94 = some 48 := by kernel_rfl
theorem tf385 : are Tryz.prog 94 = none := by kernel_rfl
theorem tf386 : zc Tryz.prog 94 = some [(.sl 0 [] .nil)] := by kernel_rfl
theorem tf387 : mpt Tryz.prog 94 = none := by kernel_rfl
theorem tf388 : lsz Tryz.prog 96 = some (true, 4) := by kernel_rfl
theorem tf389 : knownT Tryz.prog 96 = true := by kernel_rfl
theorem tf390 : isStrT Tryz.prog 96 = false := by kernel_rfl
theorem tf391 : isBoolT Tryz.prog 96 = false := by kernel_rfl
theorem tf392 : isIfaceT Tryz.prog 96 = false := by kernel_rfl
theorem tf393 : ink Tryz.prog 96 = none := by kernel_rfl
theorem tf394 : sle Tryz.prog 96 = none := by kernel_rfl
theorem tf395 : are Tryz.prog 96 = none := by kernel_rfl
theorem tf396 : zc Tryz.prog 96 = some [(.int .i64 0), (.sl 0 [] .nil), (.sl 0 [] .nil), (.sl 0 [] .nil)] := by kernel_rfl
theorem tf397 : fld Tryz.prog 96 0 = some (0, false, 1) := by kernel_rfl
theorem tf398 : fld Tryz.prog 96 1 = some (1, false, 1) := by kernel_rfl
theorem tf399 : fld Tryz.prog 96 2 = some (2, false, 1) := by kernel_rfl
theorem tf400 : fld Tryz.prog 96 3 = some (3, false, 1) := by kernel_rfl
theorem tf401 : zp Tryz.prog 96 = some ([(.int .i64 0), (.sl 0 [] .nil), (.sl 0 [] .nil), (.sl 0 [] .nil)], [(0, 1), (1, 1), (2, 1), (3, 1)]) := by kernel_rfl
theorem tf402 : mpt Tryz.prog 96 = none := by kernel_rfl
theorem tf403 : lsz Tryz.prog 99 = some (false, 1) := by kernel_rfl
theorem tf404 : knownT Tryz.prog 99 = true := by kernel_rfl
theorem tf405 : isStrT Tryz.prog 99 = false := by kernel_rfl
theorem tf406 : isBoolT Tryz.prog 99 = false := by kernel_rfl
theorem tf407 : isIfaceT Tryz.prog 99 = false := by kernel_rfl
theorem tf408 : ink Tryz.prog 99 = none := by kernel_rfl
theorem tf409 : sle Tryz.prog 99 = some (3, false, 1) := by kernel_rfl
theorem tf410 : eby Tryz.prog 99 = some 8 := by kernel_rfl
theorem tf411 : are Tryz.prog 99 = none := by kernel_rfl
theorem tf412 : zc Tryz.prog 99 = some [(.sl 0 [] .nil)] := by kernel_rfl
theorem tf413 : mpt Tryz.prog 99 = none := by kernel_rfl
theorem tf414 : lsz Tryz.prog 102 = some (false, 1) := by kernel_rfl
theorem tf415 : knownT Tryz.prog 102 = true := by kernel_rfl
theorem tf416 : isStrT Tryz.prog 102 = false := by kernel_rfl
theorem tf417 : isBoolT Tryz.prog 102 = false := by kernel_rfl
theorem tf418 : isIfaceT Tryz.prog 102 = false := by kernel_rfl
theorem tf419 : ink Tryz.prog 102 = none := by kernel_rfl
theorem tf420 : sle Tryz.prog 102 = none := by kernel_rfl
theorem tf421 : are Tryz.prog 102 = none := by kernel_rfl
theorem tf422 : zc Tryz.prog 102 = some [(.v .nilFunc)] := by kernel_rfl
theorem tf423 : mpt Tryz.prog 102 = none := by kernel_rfl
theorem tf424 : lsz Tryz.prog 105 = some (false, 1) := by kernel_rfl
theorem tf425 : knownT Tryz.prog 105 = true := by kernel_rfl
theorem tf426 : isStrT Tryz.prog 105 = false := by kernel_rfl
theorem tf427 : isBoolT Tryz.prog 105 = false := by kernel_rfl
theorem tf428 : isIfaceT Tryz.prog 105 = false := by kernel_rfl
theorem tf429 : ink Tryz.prog 105 = none := by kernel_rfl
theorem tf430 : sle Tryz.prog 105 = some (107, true, 3) := by kernel_rfl
theorem tf431 : eby Tryz.prog 105 = some 40 := by kernel_rfl
theorem tf432 : are Tryz.prog 105 = none := by kernel_rfl
theorem tf433 : zc Tryz.prog 105 = some [(.sl 0 [] .nil)] := by kernel_rfl
theorem tf434 : mpt Tryz.prog 105 = none := by kernel_rfl
theorem tf435 : lsz Tryz.prog 107 = some (true, 3) := by kernel_rfl
theorem tf436 : knownT Tryz.prog 107 = true := by kernel_rfl
theorem tf437 : isStrT Tryz.prog 107 = false := by kernel_rfl
theorem tf438 : isBoolT Tryz.prog 107 = false := by kernel_rfl
theorem tf439 : isIfaceT Tryz.prog 107 = false := by kernel_rfl
theorem tf440 : ink Tryz.prog 107 = none := by kernel_rfl
theorem tf441 : sle Tryz.prog 107 = none := by kernel_rfl
theorem tf442 : are Tryz.prog 107 = none := by kernel_rfl
theorem tf443 : zc Tryz.prog 107 = some [(.int .i64 0), (.int .i64 0), (.sl 0 [] .nil)] := by kernel_rfl
theorem tf444 : fld Tryz.prog 107 0 = some (0, false, 1) := by kernel_rfl
theorem tf445 : fld Tryz.prog 107 1 = some (1, false, 1) := by kernel_rfl
theorem tf446 : fld Tryz.prog 107 2 = some (2, false, 1) := by kernel_rfl
theorem tf447 : zp Tryz.prog 107 = some ([(.int .i64 0), (.int .i64 0), (.sl 0 [] .nil)], [(0, 1), (1, 1), (2, 1)]) := by kernel_rfl
theorem tf448 : mpt Tryz.prog 107 = none := by kernel_rfl
theorem tf449 : lsz Tryz.prog 109 = some (true, 4) := by kernel_rfl
theorem tf450 : knownT Tryz.prog 109 = true := by kernel_rfl
theorem tf451 : isStrT Tryz.prog 109 = false := by kernel_rfl
theorem tf452 : isBoolT Tryz.prog 109 = false := by kernel_rfl
theorem tf453 : isIfaceT Tryz.prog 109 = false := by kernel_rfl
theorem tf454 : ink Tryz.prog 109 = none := by kernel_rfl
theorem tf455 : sle Tryz.prog 109 = none := by kernel_rfl
theorem tf456 : are Tryz.prog 109 = none := by kernel_rfl
theorem tf457 : zc Tryz.prog 109 = some [(.int .i64 0), (.int .i64 0), (.int .i64 0), (.sl 0 [] .nil)] := by kernel_rfl
theorem tf458 : fld Tryz.prog 109 0 = some (0, false, 1) := by kernel_rfl
theorem tf459 : fld Tryz.prog 109 1 = some (1, true, 3) := by kernel_rfl
theorem tf460 : zp Tryz.prog 109 = some ([(.int .i64 0), (.int .i64 0), (.int .i64 0), (.sl 0 [] .nil)], [(0, 1), (1, 3)]) := by kernel_rfl
theorem tf461 : mpt Tryz.prog 109 = none := by kernel_rfl
theorem tf462 : lsz Tryz.prog 110 = some (false, 1) := by kernel_rfl
theorem tf463 : knownT Tryz.prog 110 = true := by kernel_rfl
theorem tf464 : isStrT Tryz.prog 110 = false := by kernel_rfl
theorem tf465 : isBoolT Tryz.prog 110 = false := by kernel_rfl
theorem tf466 : isIfaceT Tryz.prog 110 = false := by kernel_rfl
theorem tf467 : ink Tryz.prog 110 = none := by kernel_rfl
theorem tf468 : sle Tryz.prog 110 = none := by kernel_rfl
theorem tf469 : are Tryz.prog 110 = none := by kernel_rfl
theorem tf470 : zc Tryz.prog 110 = some [(.v (.map none))] := by kernel_rfl
theorem tf471 : mpt Tryz.prog 110 = some (3, 137) := by kernel_rfl
theorem tf472 : lsz Tryz.prog 118 = some (true, 2) := by kernel_rfl
theorem tf473 : knownT Tryz.prog 118 = true := by kernel_rfl
theorem tf474 : isStrT Tryz.prog 118 = false := by kernel_rfl
theorem tf475 : isBoolT Tryz.prog 118 = false := by kernel_rfl
theorem tf476 : isIfaceT Tryz.prog 118 = false := by kernel_rfl
theorem tf477 : ink Tryz.prog 118 = none := by kernel_rfl
theorem tf478 : sle Tryz.prog 118 = none := by kernel_rfl
theorem tf479 : are Tryz.prog 118 = none := by kernel_rfl
theorem tf480 : zc Tryz.prog 118 = some [(.int .u8 0), (.int .u8 0)] := by kernel_rfl
theorem tf481 : fld Tryz.prog 118 0 = some (0, false, 1) := by kernel_rfl
theorem tf482 : fld Tryz.prog 118 1 = some (1, false, 1) := by kernel_rfl
theorem tf483 : zp Tryz.prog 118 = some ([(.int .u8 0), (.int .u8 0)], [(0, 1), (1, 1)]) := by kernel_rfl
theorem tf484 : mpt Tryz.prog 118 = none := by kernel_rfl
theorem tf485 : steq Tryz.prog 118 = some [5, 5] := by kernel_rfl
theorem tf486 : lsz Tryz.prog 120 = some (false, 1) := by kernel_rfl
theorem tf487 : knownT Tryz.prog 120 = true := by kernel_rfl
theorem tf488 : isStrT Tryz.prog 120 = false := by kernel_rfl
theorem tf489 : isBoolT Tryz.prog 120 = false := by kernel_rfl
theorem tf490 : isIfaceT Tryz.prog 120 = false := by kernel_rfl
theorem tf491 : ink Tryz.prog 120 = none := by kernel_rfl
theorem tf492 : sle Tryz.prog 120 = none := by kernel_rfl
theorem tf493 : are Tryz.prog 120 = none := by kernel_rfl
theorem tf494 : zc Tryz.prog 120 = some [(.v (.map none))] := by kernel_rfl
theorem tf495 : mpt Tryz.prog 120 = some (9, 4) := by kernel_rfl
theorem tf496 : lsz Tryz.prog 124 = some (false, 1) := by kernel_rfl
theorem tf497 : knownT Tryz.prog 124 = true := by kernel_rfl
theorem tf498 : isStrT Tryz.prog 124 = false := by kernel_rfl
theorem tf499 : isBoolT Tryz.prog 124 = false := by kernel_rfl
theorem tf500 : isIfaceT Tryz.prog 124 = false := by kernel_rfl
theorem tf501 : ink Tryz.prog 124 = some .u64 := by kernel_rfl
theorem tf502 : sle Tryz.prog 124 = none := by kernel_rfl
theorem tf503 : are Tryz.prog 124 = none := by kernel_rfl
theorem tf504 : zc Tryz.prog 124 = some [(.int .u64 0)] := by kernel_rfl
theorem tf505 : mpt Tryz.prog 124 = none := by kernel_rfl
theorem tf506 : lsz Tryz.prog 126 = some (true, 4) := by kernel_rfl
theorem tf507 : knownT Tryz.prog 126 = true := by kernel_rfl
theorem tf508 : isStrT Tryz.prog 126 = false := by kernel_rfl
theorem tf509 : isBoolT Tryz.prog 126 = false := by kernel_rfl
theorem tf510 : isIfaceT Tryz.prog 126 = false := by kernel_rfl
theorem tf511 : ink Tryz.prog 126 = none := by kernel_rfl
theorem tf512 : sle Tryz.prog 126 = none := by kernel_rfl
theorem tf513 : are Tryz.prog 126 = none := by kernel_rfl
theorem tf514 : zc Tryz.prog 126 = some [(.int .i64 0), (.int .i64 0), (.int .i64 0), (.bool false)] := by kernel_rfl
theorem tf515 : fld Tryz.prog 126 0 = some (0, false, 1) := by kernel_rfl
theorem tf516 : fld Tryz.prog 126 1 = some (1, false, 1) := by kernel_rfl
theorem tf517 : fld Tryz.prog 126 2 = some (2, false, 1) := by kernel_rfl
theorem tf518 : fld Tryz.prog 126 3 = some (3, false, 1) := by kernel_rfl
theorem tf519 : zp Tryz.prog 126 = some ([(.int .i64 0), (.int .i64 0), (.int .i64 0), (.bool false)], [(0, 1), (1, 1), (2, 1), (3, 1)]) := by kernel_rfl
theorem tf520 : mpt Tryz.prog 126 = none := by kernel_rfl
theorem tf521 : steq Tryz.prog 126 = some [3, 3, 3, 4] := by kernel_rfl
theorem tf522 : lsz Tryz.prog 128 = some (true, 2) := by kernel_rfl
theorem tf523 : knownT Tryz.prog 128 = true := by kernel_rfl
theorem tf524 : isStrT Tryz.prog 128 = false := by kernel_rfl
theorem tf525 : isBoolT Tryz.prog 128 = false := by kernel_rfl
theorem tf526 : isIfaceT Tryz.prog 128 = false := by kernel_rfl
theorem tf527 : ink Tryz.prog 128 = none := by kernel_rfl
theorem tf528 : sle Tryz.prog 128 = none := by kernel_rfl
theorem tf529 : are Tryz.prog 128 = none := by kernel_rfl
theorem tf530 : zc Tryz.prog 128 = some [(.int .i64 0), (.int .i64 0)] := by kernel_rfl
theorem tf531 : fld Tryz.prog 128 0 = some (0, false, 1) := by kernel_rfl
theorem tf532 : fld Tryz.prog 128 1 = some (1, false, 1) := by kernel_rfl
theorem tf533 : zp Tryz.prog 128 = some ([(.int .i64 0), (.int .i64 0)], [(0, 1), (1, 1)]) := by kernel_rfl
theorem tf534 : mpt Tryz.prog 128 = none := by kernel_rfl
theorem tf535 : steq Tryz.prog 128 = some [3, 3] := by kernel_rfl
theorem tf536 : lsz Tryz.prog 134 = some (false, 1) := by kernel_rfl
theorem tf537 : knownT Tryz.prog 134 = true := by kernel_rfl
theorem tf538 : isStrT Tryz.prog 134 = false := by kernel_rfl
theorem tf539 : isBoolT Tryz.prog 134 = false := by kernel_rfl
theorem tf540 : isIfaceT Tryz.prog 134 = false := by kernel_rfl
theorem tf541 : ink Tryz.prog 134 = none := by kernel_rfl
theorem tf542 : sle Tryz.prog 134 = none := by kernel_rfl
theorem tf543 : are Tryz.prog 134 = none := by kernel_rfl
theorem tf544 : zc Tryz.prog 134 = some [(.v .nilFunc)] := by kernel_rfl
theorem tf545 : mpt Tryz.prog 134 = none := by kernel_rfl
theorem tf546 : lsz Tryz.prog 137 = some (true, 2) := by kernel_rfl
theorem tf547 : knownT Tryz.prog 137 = true := by kernel_rfl
theorem tf548 : isStrT Tryz.prog 137 = false := by kernel_rfl
theorem tf549 : isBoolT Tryz.prog 137 = false := by kernel_rfl
theorem tf550 : isIfaceT Tryz.prog 137 = false := by kernel_rfl
theorem tf551 : ink Tryz.prog 137 = none := by kernel_rfl
theorem tf552 : sle Tryz.prog 137 = none := by kernel_rfl
theorem tf553 : are Tryz.prog 137 = none := by kernel_rfl
theorem tf554 : zc Tryz.prog 137 = some [(.int .i64 0), (.int .i64 0)] := by kernel_rfl
theorem tf555 : fld Tryz.prog 137 0 = some (0, false, 1) := by kernel_rfl
theorem tf556 : fld Tryz.prog 137 1 = some (1, false, 1) := by kernel_rfl
theorem tf557 : zp Tryz.prog 137 = some ([(.int .i64 0), (.int .i64 0)], [(0, 1), (1, 1)]) := by kernel_rfl
theorem tf558 : mpt Tryz.prog 137 = none := by kernel_rfl
theorem tf559 : zval Tryz.prog 137 = some (.ag [(.int .i64 0), (.int .i64 0)]) := by kernel_rfl
theorem tf560 : steq Tryz.prog 137 = some [3, 3] := by kernel_rfl
theorem tf561 : lsz Tryz.prog 140 = some (false, 1) := by kernel_rfl
theorem tf562 : knownT Tryz.prog 140 = true := by kernel_rfl
theorem tf563 : isStrT Tryz.prog 140 = false := by kernel_rfl
theorem tf564 : isBoolT Tryz.prog 140 = false := by kernel_rfl
theorem tf565 : isIfaceT Tryz.prog 140 = false := by kernel_rfl
theorem tf566 : ink Tryz.prog 140 = none := by kernel_rfl
theorem tf567 : sle Tryz.prog 140 = none := by kernel_rfl
theorem tf568 : are Tryz.prog 140 = none := by kernel_rfl
theorem tf569 : zc Tryz.prog 140 = some [(.v .nilFunc)] := by kernel_rfl
theorem tf570 : mpt Tryz.prog 140 = none := by kernel_rfl
theorem tf571 : lsz Tryz.prog 145 = some (false, 1) := by kernel_rfl
theorem tf572 : knownT Tryz.prog 145 = true := by kernel_rfl
theorem tf573 : isStrT Tryz.prog 145 = false := by kernel_rfl
theorem tf574 : isBoolT Tryz.prog 145 = false := by kernel_rfl
theorem tf575 : isIfaceT Tryz.prog 145 = false := by kernel_rfl
theorem tf576 : ink Tryz.prog 145 = none := by kernel_rfl
theorem tf577 : sle Tryz.prog 145 = none := by kernel_rfl
theorem tf578 : are Tryz.prog 145 = none := by kernel_rfl
theorem tf579 : zc Tryz.prog 145 = some [(.v .nilFunc)] := by kernel_rfl
theorem tf580 : mpt Tryz.prog 145 = none := by kernel_rfl
theorem tf581 : lsz Tryz.prog 148 = some (false, 1) := by kernel_rfl
theorem tf582 : knownT Tryz.prog 148 = true := by kernel_rfl
theorem tf583 : isStrT Tryz.prog 148 = false := by kernel_rfl
theorem tf584 : isBoolT Tryz.prog 148 = false := by kernel_rfl
theorem tf585 : isIfaceT Tryz.prog 148 = false := by kernel_rfl
theorem tf586 : ink Tryz.prog 148 = none := by kernel_rfl
theorem tf587 : sle Tryz.prog 148 = none := by kernel_rfl
theorem tf588 : are Tryz.prog 148 = none := by kernel_rfl
theorem tf589 : zc Tryz.prog 148 = some [(.v .nilFunc)] := by kernel_rfl
theorem tf590 : mpt Tryz.prog 148 = none := by kernel_rfl
theorem tf591 : lsz Tryz.prog 151 = some (false, 1) := by kernel_rfl
theorem tf592 : knownT Tryz.prog 151 = true := by kernel_rfl
theorem tf593 : isStrT Tryz.prog 151 = false := by kernel_rfl
theorem tf594 : isBoolT Tryz.prog 151 = false := by kernel_rfl
theorem tf595 : isIfaceT Tryz.prog 151 = false := by kernel_rfl
theorem tf596 : ink Tryz.prog 151 = none := by kernel_rfl
theorem tf597 : sle Tryz.prog 151 = none := by kernel_rfl
theorem tf598 : are Tryz.prog 151 = none := by kernel_rfl
theorem tf599 : zc Tryz.prog 151 = some [(.v (.map none))] := by kernel_rfl
theorem tf600 : mpt Tryz.prog 151 = some (3, 158) := by kernel_rfl
theorem tf601 : lsz Tryz.prog 158 = some (true, 3) := by kernel_rfl
theorem tf602 : knownT Tryz.prog 158 = true := by kernel_rfl
theorem tf603 : isStrT Tryz.prog 158 = false := by kernel_rfl
theorem tf604 : isBoolT Tryz.prog 158 = false := by kernel_rfl
theorem tf605 : isIfaceT Tryz.prog 158 = false := by kernel_rfl
theorem tf606 : ink Tryz.prog 158 = none := by kernel_rfl
theorem tf607 : sle Tryz.prog 158 = none := by kernel_rfl
theorem tf608 : are Tryz.prog 158 = none := by kernel_rfl
theorem tf609 : zc Tryz.prog 158 = some [(.int .i64 0), (.int .i64 0), (.int .i64 0)] := by kernel_rfl
theorem tf610 : fld Tryz.prog 158 0 = some (0, false, 1) := by kernel_rfl
theorem tf611 : fld Tryz.prog 158 1 = some (1, false, 1) := by kernel_rfl
theorem tf612 : fld Tryz.prog 158 2 = some (2, false, 1) := by kernel_rfl
theorem tf613 : zp Tryz.prog 158 = some ([(.int .i64 0), (.int .i64 0), (.int .i64 0)], [(0, 1), (1, 1), (2, 1)]) := by kernel_rfl
theorem tf614 : mpt Tryz.prog 158 = none := by kernel_rfl
theorem tf615 : zval Tryz.prog 158 = some (.ag [(.int .i64 0), (.int .i64 0), (.int .i64 0)]) := by kernel_rfl
theorem tf616 : steq Tryz.prog 158 = some [3, 3, 3] := by kernel_rfl
set_option maxRecDepth 100000
attribute [go_sem ↓] vo_nil vK_eq vo_q vo_g vo_n vo_c vd_nil dK_eq eK_eq vd_q vd_g vd_n vd_ap vd_st vd_c cgs_call cgs_builtin
attribute [go_sem] Ext_refl Ext_cons
attribute [go_sem] quiet_move quiet_assign quiet_pick quiet_binOp quiet_unOp quiet_convert quiet_field quiet_fieldAddr quiet_indexAddr quiet_index quiet_load quiet_lookup quiet_extract quiet_build quiet_makeInterface quiet_makeFunc quiet_slice quiet_nilCheck quiet_sap quiet_alloc isCall_alloc quiet_box isCall_box quiet_buildSlice isCall_buildSlice quiet_store isCall_store quiet_range isCall_range quiet_next isCall_next quiet_makeSlice isCall_makeSlice quiet_panic isCall_panic quiet_len quiet_cap quiet_min quiet_max quiet_append isCall_append quiet_copy isCall_copy quiet_delete isCall_delete nqk_alloc nqk_box nqk_buildSlice nqk_range nqk_next nqk_makeSlice nqk_panic nqk_makeMap nqk_entry nqk_delete isSt_alloc isSt_box isSt_buildSlice isSt_range isSt_next isSt_makeSlice isSt_panic isSt_makeMap isSt_entry isSt_store isSt_mapUpdate isSt_insert isSt_append isSt_copy isSt_delete quiet_makeMap isCall_makeMap quiet_mapUpdate isCall_mapUpdate quiet_insert isCall_insert
attribute [go_sem] argEnv qev opd put_some put_none set_at mk_cons mk_nil prune_eq D.ofV ofC_int ofC_nil ofC_str ofC_nilmap ofC_nilfunc ofC_nilptr true_and ofC_bool bop isSh ibop Bool.false_eq_true if_false if_true and_self D.core D.cg qpick isB bof gval look Option.bind_some opc cgs Op.operands List.all_cons List.all_nil Bool.and_true and_true true_imp_iff imp_self false_imp_iff beq_true beq_false beq_iff_eq decide_eq_true_eq List.map_cons List.map_nil Bool.not_eq_true' decide_eq_false_iff_not gof gq gev cond_some Option.isSome_some Bool.or_eq_true Bool.and_eq_true Bool.or_eq_false_iff Bool.and_eq_false_iff Bool.not_eq_true Bool.not_eq_false Bool.not_eq_false' ne_eq implies_true forall_const Bool.cond_true_left Bool.cond_false_right not_false_eq_true not_true_eq_false Int.toNat_natCast Int.toNat_zero
attribute [go_sem] qbuiltin qlook ments foldI mget mput keqD keyOK lookD_s lookD_n lookD_fs lookD_fn nput agop deqF deq1 nappZ cond_true cond_false Option.getD_some Option.getD_none Option.isSome_none ite_self qindex qslice qsap qconv qextract qfield qfaddr qiaddr qload quop qiface qbuild qnil ldC ldD ob List.drop_succ_cons take_mapr drop_mapr List.drop_zero List.take_succ_cons List.take_zero List.length_cons List.length_nil List.getElem?_cons_zero List.getElem?_cons_succ Option.map_some Option.map_none List.head?_cons
attribute [go_sem] nev isImm List.contains_cons List.contains_nil Bool.or_false Bool.or_true D.flat D.cellsOf D.isCell Bool.or_self Bool.and_self szOf nstore Store.get Store.upd putCells nk_cons not_or FZ frzE_mk frzL inL frz Store.del or_false boxCells List.headD_cons List.headD_nil List.nil_append List.append_nil List.cons_append List.drop_nil false_and and_false false_or true_or or_true Bool.false_and Bool.true_and Bool.false_or Bool.true_or Bool.and_false setPs lim_eq chunk zrep pls_eq plsF fillD resAll shop sbop bbop decide_true decide_false Bool.not_true Bool.not_false eq_self
attribute [go_sem] tf0 tf1 tf2 tf3 tf4 tf5 tf6 tf7 tf8 tf9 tf10 tf11 tf12 tf13 tf14 tf15 tf16 tf17 tf18 tf19 tf20 tf21 tf22 tf23 tf24 tf25 tf26 tf27 tf28 tf29 tf30 tf31 tf32 tf33 tf34 tf35 tf36 tf37 tf38 tf39 tf40 tf41 tf42 tf43 tf44 tf45 tf46 tf47 tf48 tf49 tf50 tf51 tf52 tf53 tf54 tf55 tf56 tf57 tf58 tf59 tf60 tf61 tf62 tf63 tf64 tf65 tf66 tf67 tf68 tf69 tf70 tf71 tf72 tf73 tf74 tf75 tf76 tf77 tf78 tf79 tf80 tf81 tf82 tf83 tf84 tf85 tf86 tf87 tf88 tf89 tf90 tf91 tf92 tf93 tf94 tf95 tf96 tf97 tf98 tf99 tf100 tf101 tf102 tf103 tf104 tf105 tf106 tf107 tf108 tf109 tf110 tf111 tf112 tf113 tf114 tf115 tf116 tf117 tf118 tf119 tf120 tf121 tf122 tf123 tf124 tf125 tf126 tf127 tf128 tf129 tf130 tf131 tf132 tf133 tf134 tf135 tf136 tf137 tf138 tf139 tf140 tf141 tf142 tf143 tf144 tf145 tf146 tf147 tf148 tf149 tf150 tf151 tf152 tf153 tf154 tf155 tf156 tf157 tf158 tf159 tf160 tf161 tf162 tf163 tf164 tf165 tf166 tf167 tf168 tf169 tf170 tf171 tf172 tf173 tf174 tf175 tf176 tf177 tf178 tf179 tf180 tf181 tf182 tf183 tf184 tf185 tf186 tf187 tf188 tf189 tf190 tf191 tf192 tf193 tf194 tf195 tf196 tf197 tf198 tf199 tf200 tf201 tf202 tf203 tf204 tf205 tf206 tf207 tf208 tf209 tf210 tf211 tf212 tf213 tf214 tf215 tf216 tf217 tf218 tf219 tf220 tf221 tf222 tf223 tf224 tf225 tf226 tf227 tf228 tf229 tf230 tf231 tf232 tf233 tf234 tf235 tf236 tf237 tf238 tf239 tf240 tf241 tf242 tf243 tf244 tf245 tf246 tf247 tf248 tf249 tf250 tf251 tf252 tf253 tf254 tf255 tf256 tf257 tf258 tf259 tf260 tf261 tf262 tf263 tf264 tf265 tf266 tf267 tf268 tf269 tf270 tf271 tf272 tf273 tf274 tf275 tf276 tf277 tf278 tf279 tf280 tf281 tf282 tf283 tf284 tf285 tf286 tf287 tf288 tf289 tf290 tf291 tf292 tf293 tf294 tf295 tf296 tf297 tf298 tf299 tf300 tf301 tf302 tf303 tf304 tf305 tf306 tf307 tf308 tf309 tf310 tf311 tf312 tf313 tf314 tf315 tf316 tf317 tf318 tf319 tf320 tf321 tf322 tf323 tf324 tf325 tf326 tf327 tf328 tf329 tf330 tf331 tf332 tf333 tf334 tf335 tf336 tf337 tf338 tf339 tf340 tf341 tf342 tf343 tf344 tf345 tf346 tf347 tf348 tf349 tf350 tf351 tf352 tf353 tf354 tf355 tf356 tf357 tf358 tf359 tf360 tf361 tf362 tf363 tf364 tf365 tf366 tf367 tf368 tf369 tf370 tf371 tf372 tf373 tf374 tf375 tf376 tf377 tf378 tf379 tf380 tf381 tf382 tf383 tf384 tf385 tf386 tf387 tf388 tf389 tf390 tf391 tf392 tf393 tf394 tf395 tf396 tf397 tf398 tf399 tf400 tf401 tf402 tf403 tf404 tf405 tf406 tf407 tf408 tf409 tf410 tf411 tf412 tf413 tf414 tf415 tf416 tf417 tf418 tf419 tf420 tf421 tf422 tf423 tf424 tf425 tf426 tf427 tf428 tf429 tf430 tf431 tf432 tf433 tf434 tf435 tf436 tf437 tf438 tf439 tf440 tf441 tf442 tf443 tf444 tf445 tf446 tf447 tf448 tf449 tf450 tf451 tf452 tf453 tf454 tf455 tf456 tf457 tf458 tf459 tf460 tf461 tf462 tf463 tf464 tf465 tf466 tf467 tf468 tf469 tf470 tf471 tf472 tf473 tf474 tf475 tf476 tf477 tf478 tf479 tf480 tf481 tf482 tf483 tf484 tf485 tf486 tf487 tf488 tf489 tf490 tf491 tf492 tf493 tf494 tf495 tf496 tf497 tf498 tf499 tf500 tf501 tf502 tf503 tf504 tf505 tf506 tf507 tf508 tf509 tf510 tf511 tf512 tf513 tf514 tf515 tf516 tf517 tf518 tf519 tf520 tf521 tf522 tf523 tf524 tf525 tf526 tf527 tf528 tf529 tf530 tf531 tf532 tf533 tf534 tf535 tf536 tf537 tf538 tf539 tf540 tf541 tf542 tf543 tf544 tf545 tf546 tf547 tf548 tf549 tf550 tf551 tf552 tf553 tf554 tf555 tf556 tf557 tf558 tf559 tf560 tf561 tf562 tf563 tf564 tf565 tf566 tf567 tf568 tf569 tf570 tf571 tf572 tf573 tf574 tf575 tf576 tf577 tf578 tf579 tf580 tf581 tf582 tf583 tf584 tf585 tf586 tf587 tf588 tf589 tf590 tf591 tf592 tf593 tf594 tf595 tf596 tf597 tf598 tf599 tf600 tf601 tf602 tf603 tf604 tf605 tf606 tf607 tf608 tf609 tf610 tf611 tf612 tf613 tf614 tf615 tf616
end Go.Proofs.YtjjkgeeafjagkaaGreat
