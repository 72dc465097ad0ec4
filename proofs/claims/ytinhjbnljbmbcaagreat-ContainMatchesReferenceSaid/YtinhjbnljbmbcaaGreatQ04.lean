/- Joined. -/
import Derived.Test.YtinhjbnljbmbcaaGreatQ03
import Derived.Test.YtinhjbnljbmbcaaGreatProg
namespace Go.Proofs.YtinhjbnljbmbcaaGreat
open Go Go.RowKit
set_option linter.unusedSimpArgs false
set_option linter.unusedVariables false
theorem tf0 : knownT Tryz.prog 0 = true := by kernel_rfl
theorem tf1 : isStrT Tryz.prog 0 = false := by kernel_rfl
theorem tf2 : isBoolT Tryz.prog 0 = false := by kernel_rfl
theorem tf3 : isIfaceT Tryz.prog 0 = false := by kernel_rfl
theorem tf4 : ink Tryz.prog 0 = none := by kernel_rfl
theorem tf5 : sle Tryz.prog 0 = none := by kernel_rfl
theorem tf6 : are Tryz.prog 0 = none := by kernel_rfl
theorem tf7 : mpt Tryz.prog 0 = none := by kernel_rfl
theorem tf8 : lsz Tryz.prog 1 = some (false, 1) := by kernel_rfl
theorem tf9 : knownT Tryz.prog 1 = true := by kernel_rfl
theorem tf10 : isStrT Tryz.prog 1 = false := by kernel_rfl
theorem tf11 : isBoolT Tryz.prog 1 = false := by kernel_rfl
theorem tf12 : isIfaceT Tryz.prog 1 = false := by kernel_rfl
theorem tf13 : ink Tryz.prog 1 = none := by kernel_rfl
theorem tf14 : sle Tryz.prog 1 = none := by kernel_rfl
theorem tf15 : are Tryz.prog 1 = none := by kernel_rfl
theorem tf16 : zc Tryz.prog 1 = some [(.v .nilFunc)] := by kernel_rfl
theorem tf17 : mpt Tryz.prog 1 = none := by kernel_rfl
theorem tf18 : lsz Tryz.prog 2 = some (false, 1) := by kernel_rfl
theorem tf19 : knownT Tryz.prog 2 = true := by kernel_rfl
theorem tf20 : isStrT Tryz.prog 2 = false := by kernel_rfl
theorem tf21 : isBoolT Tryz.prog 2 = false := by kernel_rfl
theorem tf22 : isIfaceT Tryz.prog 2 = false := by kernel_rfl
theorem tf23 : ink Tryz.prog 2 = some .i64 := by kernel_rfl
theorem tf24 : sle Tryz.prog 2 = none := by kernel_rfl
theorem tf25 : are Tryz.prog 2 = none := by kernel_rfl
theorem tf26 : zc Tryz.prog 2 = some [(.int .i64 0)] := by kernel_rfl
theorem tf27 : mpt Tryz.prog 2 = none := by kernel_rfl
theorem tf28 : lsz Tryz.prog 3 = some (false, 1) := by kernel_rfl
theorem tf29 : knownT Tryz.prog 3 = true := by kernel_rfl
theorem tf30 : isStrT Tryz.prog 3 = false := by kernel_rfl
theorem tf31 : isBoolT Tryz.prog 3 = false := by kernel_rfl
theorem tf32 : isIfaceT Tryz.prog 3 = false := by kernel_rfl
theorem tf33 : ink Tryz.prog 3 = some .i64 := by kernel_rfl
theorem tf34 : sle Tryz.prog 3 = none := by kernel_rfl
theorem tf35 : are Tryz.prog 3 = none := by kernel_rfl
theorem tf36 : zc Tryz.prog 3 = some [(.int .i64 0)] := by kernel_rfl
theorem tf37 : mpt Tryz.prog 3 = none := by kernel_rfl
theorem tf38 : zval Tryz.prog 3 = some (.int .i64 0) := by kernel_rfl
theorem tf39 : lsz Tryz.prog 4 = some (false, 1) := by kernel_rfl
theorem tf40 : knownT Tryz.prog 4 = true := by kernel_rfl
theorem tf41 : isStrT Tryz.prog 4 = false := by kernel_rfl
theorem tf42 : isBoolT Tryz.prog 4 = true := by kernel_rfl
theorem tf43 : isIfaceT Tryz.prog 4 = false := by kernel_rfl
theorem tf44 : ink Tryz.prog 4 = none := by kernel_rfl
theorem tf45 : sle Tryz.prog 4 = none := by kernel_rfl
theorem tf46 : are Tryz.prog 4 = none := by kernel_rfl
theorem tf47 : zc Tryz.prog 4 = some [(.bool false)] := by kernel_rfl
theorem tf48 : mpt Tryz.prog 4 = none := by kernel_rfl
theorem tf49 : zval Tryz.prog 4 = some (.bool false) := by kernel_rfl
theorem tf50 : lsz Tryz.prog 5 = some (false, 1) := by kernel_rfl
theorem tf51 : knownT Tryz.prog 5 = true := by kernel_rfl
theorem tf52 : isStrT Tryz.prog 5 = false := by kernel_rfl
theorem tf53 : isBoolT Tryz.prog 5 = false := by kernel_rfl
theorem tf54 : isIfaceT Tryz.prog 5 = false := by kernel_rfl
theorem tf55 : ink Tryz.prog 5 = some .u8 := by kernel_rfl
theorem tf56 : sle Tryz.prog 5 = none := by kernel_rfl
theorem tf57 : are Tryz.prog 5 = none := by kernel_rfl
theorem tf58 : zc Tryz.prog 5 = some [(.int .u8 0)] := by kernel_rfl
theorem tf59 : mpt Tryz.prog 5 = none := by kernel_rfl
theorem tf60 : lsz Tryz.prog 6 = some (false, 1) := by kernel_rfl
theorem tf61 : knownT Tryz.prog 6 = true := by kernel_rfl
theorem tf62 : isStrT Tryz.prog 6 = false := by kernel_rfl
theorem tf63 : isBoolT Tryz.prog 6 = false := by kernel_rfl
theorem tf64 : isIfaceT Tryz.prog 6 = false := by kernel_rfl
theorem tf65 : ink Tryz.prog 6 = some .u8 := by kernel_rfl
theorem tf66 : sle Tryz.prog 6 = none := by kernel_rfl
theorem tf67 : are Tryz.prog 6 = none := by kernel_rfl
theorem tf68 : zc Tryz.prog 6 = some [(.int .u8 0)] := by kernel_rfl
theorem tf69 : mpt Tryz.prog 6 = none := by kernel_rfl
theorem tf70 : lsz Tryz.prog 9 = some (false, 1) := by kernel_rfl
theorem tf71 : knownT Tryz.prog 9 = true := by kernel_rfl
theorem tf72 : isStrT Tryz.prog 9 = true := by kernel_rfl
theorem tf73 : isBoolT Tryz.prog 9 = false := by kernel_rfl
theorem tf74 : isIfaceT Tryz.prog 9 = false := by kernel_rfl
theorem tf75 : ink Tryz.prog 9 = none := by kernel_rfl
theorem tf76 : sle Tryz.prog 9 = none := by kernel_rfl
theorem tf77 : are Tryz.prog 9 = none := by kernel_rfl
theorem tf78 : zc Tryz.prog 9 = some [(.str [])] := by kernel_rfl
theorem tf79 : mpt Tryz.prog 9 = none := by kernel_rfl
theorem tf80 : lsz Tryz.prog 20 = some (false, 1) := by kernel_rfl
theorem tf81 : knownT Tryz.prog 20 = true := by kernel_rfl
theorem tf82 : isStrT Tryz.prog 20 = false := by kernel_rfl
theorem tf83 : isBoolT Tryz.prog 20 = false := by kernel_rfl
theorem tf84 : isIfaceT Tryz.prog 20 = true := by kernel_rfl
theorem tf85 : ink Tryz.prog 20 = none := by kernel_rfl
theorem tf86 : sle Tryz.prog 20 = none := by kernel_rfl
theorem tf87 : are Tryz.prog 20 = none := by kernel_rfl
theorem tf88 : zc Tryz.prog 20 = some [(.v .nilIface)] := by kernel_rfl
theorem tf89 : mpt Tryz.prog 20 = none := by kernel_rfl
theorem tf90 : lsz Tryz.prog 21 = some (false, 1) := by kernel_rfl
theorem tf91 : knownT Tryz.prog 21 = true := by kernel_rfl
theorem tf92 : isStrT Tryz.prog 21 = false := by kernel_rfl
theorem tf93 : isBoolT Tryz.prog 21 = false := by kernel_rfl
theorem tf94 : isIfaceT Tryz.prog 21 = false := by kernel_rfl
theorem tf95 : ink Tryz.prog 21 = some .i32 := by kernel_rfl
theorem tf96 : sle Tryz.prog 21 = none := by kernel_rfl
theorem tf97 : are Tryz.prog 21 = none := by kernel_rfl
theorem tf98 : zc Tryz.prog 21 = some [(.int .i32 0)] := by kernel_rfl
theorem tf99 : mpt Tryz.prog 21 = none := by kernel_rfl
theorem tf100 : lsz Tryz.prog 22 = some (false, 1) := by kernel_rfl
theorem tf101 : knownT Tryz.prog 22 = true := by kernel_rfl
theorem tf102 : isStrT Tryz.prog 22 = false := by kernel_rfl
theorem tf103 : isBoolT Tryz.prog 22 = false := by kernel_rfl
theorem tf104 : isIfaceT Tryz.prog 22 = false := by kernel_rfl
theorem tf105 : ink Tryz.prog 22 = none := by kernel_rfl
theorem tf106 : sle Tryz.prog 22 = some (45, true, 5) := by kernel_rfl
theorem tf107 : eby Tryz.prog 22 = some 48 := by kernel_rfl
theorem tf108 : are Tryz.prog 22 = none := by kernel_rfl
theorem tf109 : zc Tryz.prog 22 = some [(.sl 0 [] .nil)] := by kernel_rfl
theorem tf110 : mpt Tryz.prog 22 = none := by kernel_rfl
theorem tf111 : lsz Tryz.prog 23 = some (false, 1) := by kernel_rfl
theorem tf112 : knownT Tryz.prog 23 = true := by kernel_rfl
theorem tf113 : isStrT Tryz.prog 23 = false := by kernel_rfl
theorem tf114 : isBoolT Tryz.prog 23 = false := by kernel_rfl
theorem tf115 : isIfaceT Tryz.prog 23 = false := by kernel_rfl
theorem tf116 : ink Tryz.prog 23 = none := by kernel_rfl
theorem tf117 : sle Tryz.prog 23 = some (114, true, 4) := by kernel_rfl
theorem tf118 : eby Tryz.prog 23 = some 80 := by kernel_rfl
theorem tf119 : are Tryz.prog 23 = none := by kernel_rfl
theorem tf120 : zc Tryz.prog 23 = some [(.sl 0 [] .nil)] := by kernel_rfl
theorem tf121 : mpt Tryz.prog 23 = none := by kernel_rfl
theorem tf122 : lsz Tryz.prog 24 = some (false, 1) := by kernel_rfl
theorem tf123 : knownT Tryz.prog 24 = true := by kernel_rfl
theorem tf124 : isStrT Tryz.prog 24 = false := by kernel_rfl
theorem tf125 : isBoolT Tryz.prog 24 = false := by kernel_rfl
theorem tf126 : isIfaceT Tryz.prog 24 = false := by kernel_rfl
theorem tf127 : ink Tryz.prog 24 = none := by kernel_rfl
theorem tf128 : sle Tryz.prog 24 = some (60, true, 2) := by kernel_rfl
theorem tf129 : eby Tryz.prog 24 = some 48 := by kernel_rfl
theorem tf130 : are Tryz.prog 24 = none := by kernel_rfl
theorem tf131 : zc Tryz.prog 24 = some [(.sl 0 [] .nil)] := by kernel_rfl
theorem tf132 : mpt Tryz.prog 24 = none := by kernel_rfl
theorem tf133 : lsz Tryz.prog 25 = some (false, 1) := by kernel_rfl
theorem tf134 : knownT Tryz.prog 25 = true := by kernel_rfl
theorem tf135 : isStrT Tryz.prog 25 = false := by kernel_rfl
theorem tf136 : isBoolT Tryz.prog 25 = false := by kernel_rfl
theorem tf137 : isIfaceT Tryz.prog 25 = false := by kernel_rfl
theorem tf138 : ink Tryz.prog 25 = none := by kernel_rfl
theorem tf139 : sle Tryz.prog 25 = some (63, true, 3) := by kernel_rfl
theorem tf140 : eby Tryz.prog 25 = some 40 := by kernel_rfl
theorem tf141 : are Tryz.prog 25 = none := by kernel_rfl
theorem tf142 : zc Tryz.prog 25 = some [(.sl 0 [] .nil)] := by kernel_rfl
theorem tf143 : mpt Tryz.prog 25 = none := by kernel_rfl
theorem tf144 : lsz Tryz.prog 27 = some (true, 4) := by kernel_rfl
theorem tf145 : knownT Tryz.prog 27 = true := by kernel_rfl
theorem tf146 : isStrT Tryz.prog 27 = false := by kernel_rfl
theorem tf147 : isBoolT Tryz.prog 27 = false := by kernel_rfl
theorem tf148 : isIfaceT Tryz.prog 27 = false := by kernel_rfl
theorem tf149 : ink Tryz.prog 27 = none := by kernel_rfl
theorem tf150 : sle Tryz.prog 27 = none := by kernel_rfl
theorem tf151 : are Tryz.prog 27 = none := by kernel_rfl
theorem tf152 : zc Tryz.prog 27 = some [(.sl 0 [] .nil), (.sl 0 [] .nil), (.sl 0 [] .nil), (.sl 0 [] .nil)] := by kernel_rfl
theorem tf153 : fld Tryz.prog 27 0 = some (0, false, 1) := by kernel_rfl
theorem tf154 : fld Tryz.prog 27 1 = some (1, false, 1) := by kernel_rfl
theorem tf155 : fld Tryz.prog 27 2 = some (2, false, 1) := by kernel_rfl
theorem tf156 : fld Tryz.prog 27 3 = some (3, false, 1) := by kernel_rfl
theorem tf157 : zp Tryz.prog 27 = some ([(.sl 0 [] .nil), (.sl 0 [] .nil), (.sl 0 [] .nil), (.sl 0 [] .nil)], [(0, 1), (1, 1), (2, 1), (3, 1)]) := by kernel_rfl
theorem tf158 : mpt Tryz.prog 27 = none := by kernel_rfl
theorem tf159 : lsz Tryz.prog 29 = some (true, 3) := by kernel_rfl
theorem tf160 : knownT Tryz.prog 29 = true := by kernel_rfl
theorem tf161 : isStrT Tryz.prog 29 = false := by kernel_rfl
theorem tf162 : isBoolT Tryz.prog 29 = false := by kernel_rfl
theorem tf163 : isIfaceT Tryz.prog 29 = false := by kernel_rfl
theorem tf164 : ink Tryz.prog 29 = none := by kernel_rfl
theorem tf165 : sle Tryz.prog 29 = none := by kernel_rfl
theorem tf166 : are Tryz.prog 29 = none := by kernel_rfl
theorem tf167 : zc Tryz.prog 29 = some [(.int .i64 0), (.int .i64 0), (.int .i64 0)] := by kernel_rfl
theorem tf168 : fld Tryz.prog 29 0 = some (0, false, 1) := by kernel_rfl
theorem tf169 : fld Tryz.prog 29 1 = some (1, false, 1) := by kernel_rfl
theorem tf170 : fld Tryz.prog 29 2 = some (2, false, 1) := by kernel_rfl
theorem tf171 : zp Tryz.prog 29 = some ([(.int .i64 0), (.int .i64 0), (.int .i64 0)], [(0, 1), (1, 1), (2, 1)]) := by kernel_rfl
theorem tf172 : mpt Tryz.prog 29 = none := by kernel_rfl
theorem tf173 : steq Tryz.prog 29 = some [3, 3, 3] := by kernel_rfl
theorem tf174 : lsz Tryz.prog 33 = some (true, 33) := by kernel_rfl
theorem tf175 : knownT Tryz.prog 33 = true := by kernel_rfl
theorem tf176 : isStrT Tryz.prog 33 = false := by kernel_rfl
theorem tf177 : isBoolT Tryz.prog 33 = false := by kernel_rfl
theorem tf178 : isIfaceT Tryz.prog 33 = false := by kernel_rfl
theorem tf179 : ink Tryz.prog 33 = none := by kernel_rfl
theorem tf180 : sle Tryz.prog 33 = none := by kernel_rfl
theorem tf181 : are Tryz.prog 33 = some (33, false, 1) := by kernel_rfl
theorem tf182 : zc Tryz.prog 33 = some [(.int .i64 0), (.int .i64 0), (.int .i64 0), (.int .i64 0), (.int .i64 0), (.int .i64 0), (.int .i64 0), (.int .i64 0), (.int .i64 0), (.int .i64 0), (.int .i64 0), (.int .i64 0), (.int .i64 0), (.int .i64 0), (.int .i64 0), (.int .i64 0), (.int .i64 0), (.int .i64 0), (.int .i64 0), (.int .i64 0), (.int .i64 0), (.int .i64 0), (.int .i64 0), (.int .i64 0), (.int .i64 0), (.int .i64 0), (.int .i64 0), (.int .i64 0), (.int .i64 0), (.int .i64 0), (.int .i64 0), (.int .i64 0), (.int .i64 0)] := by kernel_rfl
theorem tf183 : mpt Tryz.prog 33 = none := by kernel_rfl
theorem tf184 : steq Tryz.prog 33 = some (List.replicate 33 3) := by kernel_rfl
theorem tf185 : zp Tryz.prog 33 = some ([(.int .i64 0), (.int .i64 0), (.int .i64 0), (.int .i64 0), (.int .i64 0), (.int .i64 0), (.int .i64 0), (.int .i64 0), (.int .i64 0), (.int .i64 0), (.int .i64 0), (.int .i64 0), (.int .i64 0), (.int .i64 0), (.int .i64 0), (.int .i64 0), (.int .i64 0), (.int .i64 0), (.int .i64 0), (.int .i64 0), (.int .i64 0), (.int .i64 0), (.int .i64 0), (.int .i64 0), (.int .i64 0), (.int .i64 0), (.int .i64 0), (.int .i64 0), (.int .i64 0), (.int .i64 0), (.int .i64 0), (.int .i64 0), (.int .i64 0)], [(0, 1), (1, 1), (2, 1), (3, 1), (4, 1), (5, 1), (6, 1), (7, 1), (8, 1), (9, 1), (10, 1), (11, 1), (12, 1), (13, 1), (14, 1), (15, 1), (16, 1), (17, 1), (18, 1), (19, 1), (20, 1), (21, 1), (22, 1), (23, 1), (24, 1), (25, 1), (26, 1), (27, 1), (28, 1), (29, 1), (30, 1), (31, 1), (32, 1)]) := by kernel_rfl
theorem tf186 : lsz Tryz.prog 34 = some (false, 1) := by kernel_rfl
theorem tf187 : knownT Tryz.prog 34 = true := by kernel_rfl
theorem tf188 : isStrT Tryz.prog 34 = false := by kernel_rfl
theorem tf189 : isBoolT Tryz.prog 34 = false := by kernel_rfl
theorem tf190 : isIfaceT Tryz.prog 34 = false := by kernel_rfl
theorem tf191 : ink Tryz.prog 34 = some .i64 := by kernel_rfl
theorem tf192 : sle Tryz.prog 34 = none := by kernel_rfl
theorem tf193 : are Tryz.prog 34 = none := by kernel_rfl
theorem tf194 : zc Tryz.prog 34 = some [(.int .i64 0)] := by kernel_rfl
theorem tf195 : mpt Tryz.prog 34 = none := by kernel_rfl
theorem tf196 : lsz Tryz.prog 45 = some (true, 5) := by kernel_rfl
theorem tf197 : knownT Tryz.prog 45 = true := by kernel_rfl
theorem tf198 : isStrT Tryz.prog 45 = false := by kernel_rfl
theorem tf199 : isBoolT Tryz.prog 45 = false := by kernel_rfl
theorem tf200 : isIfaceT Tryz.prog 45 = false := by kernel_rfl
theorem tf201 : ink Tryz.prog 45 = none := by kernel_rfl
theorem tf202 : sle Tryz.prog 45 = none := by kernel_rfl
theorem tf203 : are Tryz.prog 45 = none := by kernel_rfl
theorem tf204 : zc Tryz.prog 45 = some [(.int .i64 0), (.int .i64 0), (.int .i64 0), (.int .i64 0), (.str [])] := by kernel_rfl
theorem tf205 : fld Tryz.prog 45 0 = some (0, false, 1) := by kernel_rfl
theorem tf206 : fld Tryz.prog 45 1 = some (1, false, 1) := by kernel_rfl
theorem tf207 : fld Tryz.prog 45 2 = some (2, false, 1) := by kernel_rfl
theorem tf208 : fld Tryz.prog 45 3 = some (3, false, 1) := by kernel_rfl
theorem tf209 : fld Tryz.prog 45 4 = some (4, false, 1) := by kernel_rfl
theorem tf210 : zp Tryz.prog 45 = some ([(.int .i64 0), (.int .i64 0), (.int .i64 0), (.int .i64 0), (.str [])], [(0, 1), (1, 1), (2, 1), (3, 1), (4, 1)]) := by kernel_rfl
theorem tf211 : mpt Tryz.prog 45 = none := by kernel_rfl
theorem tf212 : zval Tryz.prog 45 = some (.ag [(.int .i64 0), (.int .i64 0), (.int .i64 0), (.int .i64 0), (.str [])]) := by kernel_rfl
theorem tf213 : steq Tryz.prog 45 = some [3, 3, 3, 3, 9] := by kernel_rfl
theorem tf214 : lsz Tryz.prog 47 = some (false, 1) := by kernel_rfl
theorem tf215 : knownT Tryz.prog 47 = true := by kernel_rfl
theorem tf216 : isStrT Tryz.prog 47 = false := by kernel_rfl
theorem tf217 : isBoolT Tryz.prog 47 = false := by kernel_rfl
theorem tf218 : isIfaceT Tryz.prog 47 = false := by kernel_rfl
theorem tf219 : ink Tryz.prog 47 = none := by kernel_rfl
theorem tf220 : sle Tryz.prog 47 = some (3, false, 1) := by kernel_rfl
theorem tf221 : eby Tryz.prog 47 = some 8 := by kernel_rfl
theorem tf222 : are Tryz.prog 47 = none := by kernel_rfl
theorem tf223 : zc Tryz.prog 47 = some [(.sl 0 [] .nil)] := by kernel_rfl
theorem tf224 : mpt Tryz.prog 47 = none := by kernel_rfl
theorem tf225 : lsz Tryz.prog 56 = some (false, 1) := by kernel_rfl
theorem tf226 : knownT Tryz.prog 56 = true := by kernel_rfl
theorem tf227 : isStrT Tryz.prog 56 = false := by kernel_rfl
theorem tf228 : isBoolT Tryz.prog 56 = false := by kernel_rfl
theorem tf229 : isIfaceT Tryz.prog 56 = false := by kernel_rfl
theorem tf230 : ink Tryz.prog 56 = none := by kernel_rfl
theorem tf231 : sle Tryz.prog 56 = none := by kernel_rfl
theorem tf232 : are Tryz.prog 56 = none := by kernel_rfl
theorem tf233 : zc Tryz.prog 56 = some [(.v .nilFunc)] := by kernel_rfl
theorem tf234 : mpt Tryz.prog 56 = none := by kernel_rfl
theorem tf235 : lsz Tryz.prog 57 = some (false, 1) := by kernel_rfl
theorem tf236 : knownT Tryz.prog 57 = true := by kernel_rfl
theorem tf237 : isStrT Tryz.prog 57 = false := by kernel_rfl
theorem tf238 : isBoolT Tryz.prog 57 = false := by kernel_rfl
theorem tf239 : isIfaceT Tryz.prog 57 = false := by kernel_rfl
theorem tf240 : ink Tryz.prog 57 = none := by kernel_rfl
theorem tf241 : sle Tryz.prog 57 = some (132, true, 2) := by kernel_rfl
theorem tf242 : eby Tryz.prog 57 = some 16 := by kernel_rfl
theorem tf243 : are Tryz.prog 57 = none := by kernel_rfl
theorem tf244 : zc Tryz.prog 57 = some [(.sl 0 [] .nil)] := by kernel_rfl
theorem tf245 : mpt Tryz.prog 57 = none := by kernel_rfl
theorem tf246 : lsz Tryz.prog 58 = some (false, 1) := by kernel_rfl
theorem tf247 : knownT Tryz.prog 58 = true := by kernel_rfl
theorem tf248 : isStrT Tryz.prog 58 = false := by kernel_rfl
theorem tf249 : isBoolT Tryz.prog 58 = false := by kernel_rfl
theorem tf250 : isIfaceT Tryz.prog 58 = false := by kernel_rfl
theorem tf251 : ink Tryz.prog 58 = none := by kernel_rfl
theorem tf252 : sle Tryz.prog 58 = some (134, true, 3) := by kernel_rfl
theorem tf253 : eby Tryz.prog 58 = some 16 := by kernel_rfl
theorem tf254 : are Tryz.prog 58 = none := by kernel_rfl
theorem tf255 : zc Tryz.prog 58 = some [(.sl 0 [] .nil)] := by kernel_rfl
theorem tf256 : mpt Tryz.prog 58 = none := by kernel_rfl
theorem tf257 : lsz Tryz.prog 60 = some (true, 2) := by kernel_rfl
theorem tf258 : knownT Tryz.prog 60 = true := by kernel_rfl
theorem tf259 : isStrT Tryz.prog 60 = false := by kernel_rfl
theorem tf260 : isBoolT Tryz.prog 60 = false := by kernel_rfl
theorem tf261 : isIfaceT Tryz.prog 60 = false := by kernel_rfl
theorem tf262 : ink Tryz.prog 60 = none := by kernel_rfl
theorem tf263 : sle Tryz.prog 60 = none := by kernel_rfl
theorem tf264 : are Tryz.prog 60 = none := by kernel_rfl
theorem tf265 : zc Tryz.prog 60 = some [(.sl 0 [] .nil), (.sl 0 [] .nil)] := by kernel_rfl
theorem tf266 : fld Tryz.prog 60 0 = some (0, false, 1) := by kernel_rfl
theorem tf267 : fld Tryz.prog 60 1 = some (1, false, 1) := by kernel_rfl
theorem tf268 : zp Tryz.prog 60 = some ([(.sl 0 [] .nil), (.sl 0 [] .nil)], [(0, 1), (1, 1)]) := by kernel_rfl
theorem tf269 : mpt Tryz.prog 60 = none := by kernel_rfl
theorem tf270 : lsz Tryz.prog 61 = some (false, 1) := by kernel_rfl
theorem tf271 : knownT Tryz.prog 61 = true := by kernel_rfl
theorem tf272 : isStrT Tryz.prog 61 = false := by kernel_rfl
theorem tf273 : isBoolT Tryz.prog 61 = false := by kernel_rfl
theorem tf274 : isIfaceT Tryz.prog 61 = false := by kernel_rfl
theorem tf275 : ink Tryz.prog 61 = none := by kernel_rfl
theorem tf276 : sle Tryz.prog 61 = some (9, false, 1) := by kernel_rfl
theorem tf277 : eby Tryz.prog 61 = some 16 := by kernel_rfl
theorem tf278 : are Tryz.prog 61 = none := by kernel_rfl
theorem tf279 : zc Tryz.prog 61 = some [(.sl 0 [] .nil)] := by kernel_rfl
theorem tf280 : mpt Tryz.prog 61 = none := by kernel_rfl
theorem tf281 : lsz Tryz.prog 63 = some (true, 3) := by kernel_rfl
theorem tf282 : knownT Tryz.prog 63 = true := by kernel_rfl
theorem tf283 : isStrT Tryz.prog 63 = false := by kernel_rfl
theorem tf284 : isBoolT Tryz.prog 63 = false := by kernel_rfl
theorem tf285 : isIfaceT Tryz.prog 63 = false := by kernel_rfl
theorem tf286 : ink Tryz.prog 63 = none := by kernel_rfl
theorem tf287 : sle Tryz.prog 63 = none := by kernel_rfl
theorem tf288 : are Tryz.prog 63 = none := by kernel_rfl
theorem tf289 : zc Tryz.prog 63 = some [(.int .i64 0), (.int .i64 0), (.sl 0 [] .nil)] := by kernel_rfl
theorem tf290 : fld Tryz.prog 63 0 = some (0, false, 1) := by kernel_rfl
theorem tf291 : fld Tryz.prog 63 1 = some (1, false, 1) := by kernel_rfl
theorem tf292 : fld Tryz.prog 63 2 = some (2, false, 1) := by kernel_rfl
theorem tf293 : zp Tryz.prog 63 = some ([(.int .i64 0), (.int .i64 0), (.sl 0 [] .nil)], [(0, 1), (1, 1), (2, 1)]) := by kernel_rfl
theorem tf294 : mpt Tryz.prog 63 = none := by kernel_rfl
theorem tf295 : lsz Tryz.prog 65 = some (true, 33) := by kernel_rfl
theorem tf296 : knownT Tryz.prog 65 = true := by kernel_rfl
theorem tf297 : isStrT Tryz.prog 65 = false := by kernel_rfl
theorem tf298 : isBoolT Tryz.prog 65 = false := by kernel_rfl
theorem tf299 : isIfaceT Tryz.prog 65 = false := by kernel_rfl
theorem tf300 : ink Tryz.prog 65 = none := by kernel_rfl
theorem tf301 : sle Tryz.prog 65 = none := by kernel_rfl
theorem tf302 : are Tryz.prog 65 = none := by kernel_rfl
theorem tf303 : zc Tryz.prog 65 = some [(.int .i64 0), (.int .i64 0), (.int .i64 0), (.int .i64 0), (.int .i64 0), (.int .i64 0), (.int .i64 0), (.int .i64 0), (.int .i64 0), (.int .i64 0), (.int .i64 0), (.int .i64 0), (.int .i64 0), (.int .i64 0), (.int .i64 0), (.int .i64 0), (.int .i64 0), (.int .i64 0), (.int .i64 0), (.int .i64 0), (.int .i64 0), (.int .i64 0), (.int .i64 0), (.int .i64 0), (.int .i64 0), (.int .i64 0), (.int .i64 0), (.int .i64 0), (.int .i64 0), (.int .i64 0), (.int .i64 0), (.int .i64 0), (.int .i64 0)] := by kernel_rfl
theorem tf304 : fld Tryz.prog 65 0 = some (0, true, 33) := by kernel_rfl
theorem tf305 : zp Tryz.prog 65 = some ([(.int .i64 0), (.int .i64 0), (.int .i64 0), (.int .i64 0), (.int .i64 0), (.int .i64 0), (.int .i64 0), (.int .i64 0), (.int .i64 0), (.int .i64 0), (.int .i64 0), (.int .i64 0), (.int .i64 0), (.int .i64 0), (.int .i64 0), (.int .i64 0), (.int .i64 0), (.int .i64 0), (.int .i64 0), (.int .i64 0), (.int .i64 0), (.int .i64 0), (.int .i64 0), (.int .i64 0), (.int .i64 0), (.int .i64 0), (.int .i64 0), (.int .i64 0), (.int .i64 0), (.int .i64 0), (.int .i64 0), (.int .i64 0), (.int .i64 0)], [(0, 33)]) := by kernel_rfl
theorem tf306 : mpt Tryz.prog 65 = none := by kernel_rfl
theorem tf307 : lsz Tryz.prog 67 = some (true, 39) := by kernel_rfl
theorem tf308 : knownT Tryz.prog 67 = true := by kernel_rfl
theorem tf309 : isStrT Tryz.prog 67 = false := by kernel_rfl
theorem tf310 : isBoolT Tryz.prog 67 = false := by kernel_rfl
theorem tf311 : isIfaceT Tryz.prog 67 = false := by kernel_rfl
theorem tf312 : ink Tryz.prog 67 = none := by kernel_rfl
theorem tf313 : sle Tryz.prog 67 = none := by kernel_rfl
theorem tf314 : are Tryz.prog 67 = none := by kernel_rfl
theorem tf315 : zc Tryz.prog 67 = some [(.int .i64 0), (.int .i64 0), (.int .i64 0), (.int .i64 0), (.int .i64 0), (.int .i64 0), (.int .i64 0), (.int .i64 0), (.int .i64 0), (.int .i64 0), (.int .i64 0), (.int .i64 0), (.int .i64 0), (.int .i64 0), (.int .i64 0), (.int .i64 0), (.int .i64 0), (.int .i64 0), (.int .i64 0), (.int .i64 0), (.int .i64 0), (.int .i64 0), (.int .i64 0), (.int .i64 0), (.int .i64 0), (.int .i64 0), (.int .i64 0), (.int .i64 0), (.int .i64 0), (.int .i64 0), (.int .i64 0), (.int .i64 0), (.int .i64 0), (.int .i64 0), (.int .i64 0), (.int .i64 0), (.int .i64 0), (.bool false), (.int .i64 0)] := by kernel_rfl
theorem tf316 : fld Tryz.prog 67 0 = some (0, true, 33) := by kernel_rfl
theorem tf317 : fld Tryz.prog 67 1 = some (33, false, 1) := by kernel_rfl
theorem tf318 : fld Tryz.prog 67 2 = some (34, false, 1) := by kernel_rfl
theorem tf319 : fld Tryz.prog 67 3 = some (35, false, 1) := by kernel_rfl
theorem tf320 : fld Tryz.prog 67 4 = some (36, false, 1) := by kernel_rfl
theorem tf321 : fld Tryz.prog 67 5 = some (37, false, 1) := by kernel_rfl
theorem tf322 : fld Tryz.prog 67 6 = some (38, false, 1) := by kernel_rfl
theorem tf323 : zp Tryz.prog 67 = some ([(.int .i64 0), (.int .i64 0), (.int .i64 0), (.int .i64 0), (.int .i64 0), (.int .i64 0), (.int .i64 0), (.int .i64 0), (.int .i64 0), (.int .i64 0), (.int .i64 0), (.int .i64 0), (.int .i64 0), (.int .i64 0), (.int .i64 0), (.int .i64 0), (.int .i64 0), (.int .i64 0), (.int .i64 0), (.int .i64 0), (.int .i64 0), (.int .i64 0), (.int .i64 0), (.int .i64 0), (.int .i64 0), (.int .i64 0), (.int .i64 0), (.int .i64 0), (.int .i64 0), (.int .i64 0), (.int .i64 0), (.int .i64 0), (.int .i64 0), (.int .i64 0), (.int .i64 0), (.int .i64 0), (.int .i64 0), (.bool false), (.int .i64 0)], [(0, 33), (33, 1), (34, 1), (35, 1), (36, 1), (37, 1), (38, 1)]) := by kernel_rfl
theorem tf324 : mpt Tryz.prog 67 = none := by kernel_rfl
theorem tf325 : lsz Tryz.prog 72 = some (false, 1) := by kernel_rfl
theorem tf326 : knownT Tryz.prog 72 = true := by kernel_rfl
theorem tf327 : isStrT Tryz.prog 72 = false := by kernel_rfl
theorem tf328 : isBoolT Tryz.prog 72 = false := by kernel_rfl
theorem tf329 : isIfaceT Tryz.prog 72 = false := by kernel_rfl
theorem tf330 : ink Tryz.prog 72 = none := by kernel_rfl
theorem tf331 : sle Tryz.prog 72 = some (76, true, 37) := by kernel_rfl
theorem tf332 : eby Tryz.prog 72 = some 296 := by kernel_rfl
theorem tf333 : are Tryz.prog 72 = none := by kernel_rfl
theorem tf334 : zc Tryz.prog 72 = some [(.sl 0 [] .nil)] := by kernel_rfl
theorem tf335 : mpt Tryz.prog 72 = none := by kernel_rfl
theorem tf336 : lsz Tryz.prog 76 = some (true, 37) := by kernel_rfl
theorem tf337 : knownT Tryz.prog 76 = true := by kernel_rfl
theorem tf338 : isStrT Tryz.prog 76 = false := by kernel_rfl
theorem tf339 : isBoolT Tryz.prog 76 = false := by kernel_rfl
theorem tf340 : isIfaceT Tryz.prog 76 = false := by kernel_rfl
theorem tf341 : ink Tryz.prog 76 = none := by kernel_rfl
theorem tf342 : sle Tryz.prog 76 = none := by kernel_rfl
theorem tf343 : are Tryz.prog 76 = none := by kernel_rfl
theorem tf344 : zc Tryz.prog 76 = some [(.int .i64 0), (.int .i64 0), (.int .i64 0), (.int .i64 0), (.int .i64 0), (.int .i64 0), (.int .i64 0), (.int .i64 0), (.int .i64 0), (.int .i64 0), (.int .i64 0), (.int .i64 0), (.int .i64 0), (.int .i64 0), (.int .i64 0), (.int .i64 0), (.int .i64 0), (.int .i64 0), (.int .i64 0), (.int .i64 0), (.int .i64 0), (.int .i64 0), (.int .i64 0), (.int .i64 0), (.int .i64 0), (.int .i64 0), (.int .i64 0), (.int .i64 0), (.int .i64 0), (.int .i64 0), (.int .i64 0), (.int .i64 0), (.int .i64 0), (.bool false), (.int .i64 0), (.int .i64 0), (.int .i64 0)] := by kernel_rfl
theorem tf345 : fld Tryz.prog 76 0 = some (0, true, 33) := by kernel_rfl
theorem tf346 : fld Tryz.prog 76 1 = some (33, false, 1) := by kernel_rfl
theorem tf347 : fld Tryz.prog 76 2 = some (34, false, 1) := by kernel_rfl
theorem tf348 : fld Tryz.prog 76 3 = some (35, false, 1) := by kernel_rfl
theorem tf349 : fld Tryz.prog 76 4 = some (36, false, 1) := by kernel_rfl
theorem tf350 : zp Tryz.prog 76 = some ([(.int .i64 0), (.int .i64 0), (.int .i64 0), (.int .i64 0), (.int .i64 0), (.int .i64 0), (.int .i64 0), (.int .i64 0), (.int .i64 0), (.int .i64 0), (.int .i64 0), (.int .i64 0), (.int .i64 0), (.int .i64 0), (.int .i64 0), (.int .i64 0), (.int .i64 0), (.int .i64 0), (.int .i64 0), (.int .i64 0), (.int .i64 0), (.int .i64 0), (.int .i64 0), (.int .i64 0), (.int .i64 0), (.int .i64 0), (.int .i64 0), (.int .i64 0), (.int .i64 0), (.int .i64 0), (.int .i64 0), (.int .i64 0), (.int .i64 0), (.bool false), (.int .i64 0), (.int .i64 0), (.int .i64 0)], [(0, 33), (33, 1), (34, 1), (35, 1), (36, 1)]) := by kernel_rfl
theorem tf351 : mpt Tryz.prog 76 = none := by kernel_rfl
theorem tf352 : lsz Tryz.prog 79 = some (false, 1) := by kernel_rfl
theorem tf353 : knownT Tryz.prog 79 = true := by kernel_rfl
theorem tf354 : isStrT Tryz.prog 79 = false := by kernel_rfl
theorem tf355 : isBoolT Tryz.prog 79 = false := by kernel_rfl
theorem tf356 : isIfaceT Tryz.prog 79 = false := by kernel_rfl
theorem tf357 : ink Tryz.prog 79 = none := by kernel_rfl
theorem tf358 : sle Tryz.prog 79 = none := by kernel_rfl
theorem tf359 : are Tryz.prog 79 = none := by kernel_rfl
theorem tf360 : zc Tryz.prog 79 = some [(.v .nilFunc)] := by kernel_rfl
theorem tf361 : mpt Tryz.prog 79 = none := by kernel_rfl
theorem tf362 : lsz Tryz.prog 84 = some (false, 1) := by kernel_rfl
theorem tf363 : knownT Tryz.prog 84 = true := by kernel_rfl
theorem tf364 : isStrT Tryz.prog 84 = false := by kernel_rfl
theorem tf365 : isBoolT Tryz.prog 84 = false := by kernel_rfl
theorem tf366 : isIfaceT Tryz.prog 84 = false := by kernel_rfl
theorem tf367 : ink Tryz.prog 84 = none := by kernel_rfl
theorem tf368 : sle Tryz.prog 84 = none := by kernel_rfl
theorem tf369 : are Tryz.prog 84 = none := by kernel_rfl
theorem tf370 : zc Tryz.prog 84 = some [(.v .nilFunc)] := by kernel_rfl
theorem tf371 : mpt Tryz.prog 84 = none := by kernel_rfl
theorem tf372 : lsz Tryz.prog 87 = some (false, 1) := by kernel_rfl
theorem tf373 : knownT Tryz.prog 87 = true := by kernel_rfl
theorem tf374 : isStrT Tryz.prog 87 = false := by kernel_rfl
theorem tf375 : isBoolT Tryz.prog 87 = false := by kernel_rfl
theorem tf376 : isIfaceT Tryz.prog 87 = false := by kernel_rfl
theorem tf377 : ink Tryz.prog 87 = none := by kernel_rfl
theorem tf378 : sle Tryz.prog 87 = none := by kernel_rfl
theorem tf379 : are Tryz.prog 87 = none := by kernel_rfl
theorem tf380 : zc Tryz.prog 87 = some [(.v (.map none))] := by kernel_rfl
theorem tf381 : mpt Tryz.prog 87 = some (3, 4) := by kernel_rfl
theorem tf382 : lsz Tryz.prog 89 = some (true, 33) := by kernel_rfl
theorem tf383 : knownT Tryz.prog 89 = true := by kernel_rfl
theorem tf384 : isStrT Tryz.prog 89 = false := by kernel_rfl
theorem tf385 : isBoolT Tryz.prog 89 = false := by kernel_rfl
theorem tf386 : isIfaceT Tryz.prog 89 = false := by kernel_rfl
theorem tf387 : ink Tryz.prog 89 = none := by kernel_rfl
theorem tf388 : sle Tryz.prog 89 = none := by kernel_rfl
theorem tf389 : are Tryz.prog 89 = some (33, false, 1) := by kernel_rfl
theorem tf390 : zc Tryz.prog 89 = some [(.v .nilFunc), (.v .nilFunc), (.v .nilFunc), (.v .nilFunc), (.v .nilFunc), (.v .nilFunc), (.v .nilFunc), (.v .nilFunc), (.v .nilFunc), (.v .nilFunc), (.v .nilFunc), (.v .nilFunc), (.v .nilFunc), (.v .nilFunc), (.v .nilFunc), (.v .nilFunc), (.v .nilFunc), (.v .nilFunc), (.v .nilFunc), (.v .nilFunc), (.v .nilFunc), (.v .nilFunc), (.v .nilFunc), (.v .nilFunc), (.v .nilFunc), (.v .nilFunc), (.v .nilFunc), (.v .nilFunc), (.v .nilFunc), (.v .nilFunc), (.v .nilFunc), (.v .nilFunc), (.v .nilFunc)] := by kernel_rfl
theorem tf391 : mpt Tryz.prog 89 = none := by kernel_rfl
theorem tf392 : zp Tryz.prog 89 = some ([(.v .nilFunc), (.v .nilFunc), (.v .nilFunc), (.v .nilFunc), (.v .nilFunc), (.v .nilFunc), (.v .nilFunc), (.v .nilFunc), (.v .nilFunc), (.v .nilFunc), (.v .nilFunc), (.v .nilFunc), (.v .nilFunc), (.v .nilFunc), (.v .nilFunc), (.v .nilFunc), (.v .nilFunc), (.v .nilFunc), (.v .nilFunc), (.v .nilFunc), (.v .nilFunc), (.v .nilFunc), (.v .nilFunc), (.v .nilFunc), (.v .nilFunc), (.v .nilFunc), (.v .nilFunc), (.v .nilFunc), (.v .nilFunc), (.v .nilFunc), (.v .nilFunc), (.v .nilFunc), (.v .nilFunc)], [(0, 1), (1, 1), (2, 1), (3, 1), (4, 1), (5, 1), (6, 1), (7, 1), (8, 1), (9, 1), (10, 1), (11, 1), (12, 1), (13, 1), (14, 1), (15, 1), (16, 1), (17, 1), (18, 1), (19, 1), (20, 1), (21, 1), (22, 1), (23, 1), (24, 1), (25, 1), (26, 1), (27, 1), (28, 1), (29, 1), (30, 1), (31, 1), (32, 1)]) := by kernel_rfl
theorem tf393 : lsz Tryz.prog 92 = some (true, 7) := by kernel_rfl
theorem tf394 : knownT Tryz.prog 92 = true := by kernel_rfl
theorem tf395 : isStrT Tryz.prog 92 = false := by kernel_rfl
theorem tf396 : isBoolT Tryz.prog 92 = false := by kernel_rfl
theorem tf397 : isIfaceT Tryz.prog 92 = false := by kernel_rfl
theorem tf398 : ink Tryz.prog 92 = none := by kernel_rfl
theorem tf399 : sle Tryz.prog 92 = none := by kernel_rfl
theorem tf400 : are Tryz.prog 92 = none := by kernel_rfl
theorem tf401 : zc Tryz.prog 92 = some [(.sl 0 [] .nil), (.sl 0 [] .nil), (.int .i64 0), (.int .i64 0), (.int .i64 0), (.int .i64 0), (.int .i64 0)] := by kernel_rfl
theorem tf402 : fld Tryz.prog 92 0 = some (0, false, 1) := by kernel_rfl
theorem tf403 : fld Tryz.prog 92 1 = some (1, false, 1) := by kernel_rfl
theorem tf404 : fld Tryz.prog 92 2 = some (2, false, 1) := by kernel_rfl
theorem tf405 : fld Tryz.prog 92 3 = some (3, true, 3) := by kernel_rfl
theorem tf406 : fld Tryz.prog 92 4 = some (6, false, 1) := by kernel_rfl
theorem tf407 : zp Tryz.prog 92 = some ([(.sl 0 [] .nil), (.sl 0 [] .nil), (.int .i64 0), (.int .i64 0), (.int .i64 0), (.int .i64 0), (.int .i64 0)], [(0, 1), (1, 1), (2, 1), (3, 3), (6, 1)]) := by kernel_rfl
theorem tf408 : mpt Tryz.prog 92 = none := by kernel_rfl
theorem tf409 : lsz Tryz.prog 95 = some (true, 3) := by kernel_rfl
theorem tf410 : knownT Tryz.prog 95 = true := by kernel_rfl
theorem tf411 : isStrT Tryz.prog 95 = false := by kernel_rfl
theorem tf412 : isBoolT Tryz.prog 95 = false := by kernel_rfl
theorem tf413 : isIfaceT Tryz.prog 95 = false := by kernel_rfl
theorem tf414 : ink Tryz.prog 95 = none := by kernel_rfl
theorem tf415 : sle Tryz.prog 95 = none := by kernel_rfl
theorem tf416 : are Tryz.prog 95 = some (3, false, 1) := by kernel_rfl
theorem tf417 : zc Tryz.prog 95 = some [(.int .i64 0), (.int .i64 0), (.int .i64 0)] := by kernel_rfl
theorem tf418 : mpt Tryz.prog 95 = none := by kernel_rfl
theorem tf419 : steq Tryz.prog 95 = some [3, 3, 3] := by kernel_rfl
theorem tf420 : zp Tryz.prog 95 = some ([(.int .i64 0), (.int .i64 0), (.int .i64 0)], [(0, 1), (1, 1), (2, 1)]) := by kernel_rfl
theorem tf421 : lsz Tryz.prog 97 = some (true, 6) := by kernel_rfl
theorem tf422 : knownT Tryz.prog 97 = true := by kernel_rfl
theorem tf423 : isStrT Tryz.prog 97 = false := by kernel_rfl
theorem tf424 : isBoolT Tryz.prog 97 = false := by kernel_rfl
theorem tf425 : isIfaceT Tryz.prog 97 = false := by kernel_rfl
theorem tf426 : ink Tryz.prog 97 = none := by kernel_rfl
theorem tf427 : sle Tryz.prog 97 = none := by kernel_rfl
theorem tf428 : are Tryz.prog 97 = none := by kernel_rfl
theorem tf429 : zc Tryz.prog 97 = some [(.int .i64 0), (.int .i64 0), (.int .i64 0), (.int .i64 0), (.int .i64 0), (.bool false)] := by kernel_rfl
theorem tf430 : fld Tryz.prog 97 0 = some (0, false, 1) := by kernel_rfl
theorem tf431 : fld Tryz.prog 97 1 = some (1, false, 1) := by kernel_rfl
theorem tf432 : fld Tryz.prog 97 2 = some (2, true, 3) := by kernel_rfl
theorem tf433 : fld Tryz.prog 97 3 = some (5, false, 1) := by kernel_rfl
theorem tf434 : zp Tryz.prog 97 = some ([(.int .i64 0), (.int .i64 0), (.int .i64 0), (.int .i64 0), (.int .i64 0), (.bool false)], [(0, 1), (1, 1), (2, 3), (5, 1)]) := by kernel_rfl
theorem tf435 : mpt Tryz.prog 97 = none := by kernel_rfl
theorem tf436 : lsz Tryz.prog 98 = some (true, 198) := by kernel_rfl
theorem tf437 : knownT Tryz.prog 98 = true := by kernel_rfl
theorem tf438 : isStrT Tryz.prog 98 = false := by kernel_rfl
theorem tf439 : isBoolT Tryz.prog 98 = false := by kernel_rfl
theorem tf440 : isIfaceT Tryz.prog 98 = false := by kernel_rfl
theorem tf441 : ink Tryz.prog 98 = none := by kernel_rfl
theorem tf442 : sle Tryz.prog 98 = none := by kernel_rfl
theorem tf443 : are Tryz.prog 98 = some (33, true, 6) := by kernel_rfl
theorem tf444 : zc Tryz.prog 98 = some [(.int .i64 0), (.int .i64 0), (.int .i64 0), (.int .i64 0), (.int .i64 0), (.bool false), (.int .i64 0), (.int .i64 0), (.int .i64 0), (.int .i64 0), (.int .i64 0), (.bool false), (.int .i64 0), (.int .i64 0), (.int .i64 0), (.int .i64 0), (.int .i64 0), (.bool false), (.int .i64 0), (.int .i64 0), (.int .i64 0), (.int .i64 0), (.int .i64 0), (.bool false), (.int .i64 0), (.int .i64 0), (.int .i64 0), (.int .i64 0), (.int .i64 0), (.bool false), (.int .i64 0), (.int .i64 0), (.int .i64 0), (.int .i64 0), (.int .i64 0), (.bool false), (.int .i64 0), (.int .i64 0), (.int .i64 0), (.int .i64 0), (.int .i64 0), (.bool false), (.int .i64 0), (.int .i64 0), (.int .i64 0), (.int .i64 0), (.int .i64 0), (.bool false), (.int .i64 0), (.int .i64 0), (.int .i64 0), (.int .i64 0), (.int .i64 0), (.bool false), (.int .i64 0), (.int .i64 0), (.int .i64 0), (.int .i64 0), (.int .i64 0), (.bool false), (.int .i64 0), (.int .i64 0), (.int .i64 0), (.int .i64 0), (.int .i64 0), (.bool false), (.int .i64 0), (.int .i64 0), (.int .i64 0), (.int .i64 0), (.int .i64 0), (.bool false), (.int .i64 0), (.int .i64 0), (.int .i64 0), (.int .i64 0), (.int .i64 0), (.bool false), (.int .i64 0), (.int .i64 0), (.int .i64 0), (.int .i64 0), (.int .i64 0), (.bool false), (.int .i64 0), (.int .i64 0), (.int .i64 0), (.int .i64 0), (.int .i64 0), (.bool false), (.int .i64 0), (.int .i64 0), (.int .i64 0), (.int .i64 0), (.int .i64 0), (.bool false), (.int .i64 0), (.int .i64 0), (.int .i64 0), (.int .i64 0), (.int .i64 0), (.bool false), (.int .i64 0), (.int .i64 0), (.int .i64 0), (.int .i64 0), (.int .i64 0), (.bool false), (.int .i64 0), (.int .i64 0), (.int .i64 0), (.int .i64 0), (.int .i64 0), (.bool false), (.int .i64 0), (.int .i64 0), (.int .i64 0), (.int .i64 0), (.int .i64 0), (.bool false), (.int .i64 0), (.int .i64 0), (.int .i64 0), (.int .i64 0), (.int .i64 0), (.bool false), (.int .i64 0), (.int .i64 0), (.int .i64 0), (.int .i64 0), (.int .i64 0), (.bool false), (.int .i64 0), (.int .i64 0), (.int .i64 0), (.int .i64 0), (.int .i64 0), (.bool false), (.int .i64 0), (.int .i64 0), (.int .i64 0), (.int .i64 0), (.int .i64 0), (.bool false), (.int .i64 0), (.int .i64 0), (.int .i64 0), (.int .i64 0), (.int .i64 0), (.bool false), (.int .i64 0), (.int .i64 0), (.int .i64 0), (.int .i64 0), (.int .i64 0), (.bool false), (.int .i64 0), (.int .i64 0), (.int .i64 0), (.int .i64 0), (.int .i64 0), (.bool false), (.int .i64 0), (.int .i64 0), (.int .i64 0), (.int .i64 0), (.int .i64 0), (.bool false), (.int .i64 0), (.int .i64 0), (.int .i64 0), (.int .i64 0), (.int .i64 0), (.bool false), (.int .i64 0), (.int .i64 0), (.int .i64 0), (.int .i64 0), (.int .i64 0), (.bool false), (.int .i64 0), (.int .i64 0), (.int .i64 0), (.int .i64 0), (.int .i64 0), (.bool false), (.int .i64 0), (.int .i64 0), (.int .i64 0), (.int .i64 0), (.int .i64 0), (.bool false), (.int .i64 0), (.int .i64 0), (.int .i64 0), (.int .i64 0), (.int .i64 0), (.bool false)] := by kernel_rfl
theorem tf445 : mpt Tryz.prog 98 = none := by kernel_rfl
theorem tf446 : zp Tryz.prog 98 = some ([(.int .i64 0), (.int .i64 0), (.int .i64 0), (.int .i64 0), (.int .i64 0), (.bool false), (.int .i64 0), (.int .i64 0), (.int .i64 0), (.int .i64 0), (.int .i64 0), (.bool false), (.int .i64 0), (.int .i64 0), (.int .i64 0), (.int .i64 0), (.int .i64 0), (.bool false), (.int .i64 0), (.int .i64 0), (.int .i64 0), (.int .i64 0), (.int .i64 0), (.bool false), (.int .i64 0), (.int .i64 0), (.int .i64 0), (.int .i64 0), (.int .i64 0), (.bool false), (.int .i64 0), (.int .i64 0), (.int .i64 0), (.int .i64 0), (.int .i64 0), (.bool false), (.int .i64 0), (.int .i64 0), (.int .i64 0), (.int .i64 0), (.int .i64 0), (.bool false), (.int .i64 0), (.int .i64 0), (.int .i64 0), (.int .i64 0), (.int .i64 0), (.bool false), (.int .i64 0), (.int .i64 0), (.int .i64 0), (.int .i64 0), (.int .i64 0), (.bool false), (.int .i64 0), (.int .i64 0), (.int .i64 0), (.int .i64 0), (.int .i64 0), (.bool false), (.int .i64 0), (.int .i64 0), (.int .i64 0), (.int .i64 0), (.int .i64 0), (.bool false), (.int .i64 0), (.int .i64 0), (.int .i64 0), (.int .i64 0), (.int .i64 0), (.bool false), (.int .i64 0), (.int .i64 0), (.int .i64 0), (.int .i64 0), (.int .i64 0), (.bool false), (.int .i64 0), (.int .i64 0), (.int .i64 0), (.int .i64 0), (.int .i64 0), (.bool false), (.int .i64 0), (.int .i64 0), (.int .i64 0), (.int .i64 0), (.int .i64 0), (.bool false), (.int .i64 0), (.int .i64 0), (.int .i64 0), (.int .i64 0), (.int .i64 0), (.bool false), (.int .i64 0), (.int .i64 0), (.int .i64 0), (.int .i64 0), (.int .i64 0), (.bool false), (.int .i64 0), (.int .i64 0), (.int .i64 0), (.int .i64 0), (.int .i64 0), (.bool false), (.int .i64 0), (.int .i64 0), (.int .i64 0), (.int .i64 0), (.int .i64 0), (.bool false), (.int .i64 0), (.int .i64 0), (.int .i64 0), (.int .i64 0), (.int .i64 0), (.bool false), (.int .i64 0), (.int .i64 0), (.int .i64 0), (.int .i64 0), (.int .i64 0), (.bool false), (.int .i64 0), (.int .i64 0), (.int .i64 0), (.int .i64 0), (.int .i64 0), (.bool false), (.int .i64 0), (.int .i64 0), (.int .i64 0), (.int .i64 0), (.int .i64 0), (.bool false), (.int .i64 0), (.int .i64 0), (.int .i64 0), (.int .i64 0), (.int .i64 0), (.bool false), (.int .i64 0), (.int .i64 0), (.int .i64 0), (.int .i64 0), (.int .i64 0), (.bool false), (.int .i64 0), (.int .i64 0), (.int .i64 0), (.int .i64 0), (.int .i64 0), (.bool false), (.int .i64 0), (.int .i64 0), (.int .i64 0), (.int .i64 0), (.int .i64 0), (.bool false), (.int .i64 0), (.int .i64 0), (.int .i64 0), (.int .i64 0), (.int .i64 0), (.bool false), (.int .i64 0), (.int .i64 0), (.int .i64 0), (.int .i64 0), (.int .i64 0), (.bool false), (.int .i64 0), (.int .i64 0), (.int .i64 0), (.int .i64 0), (.int .i64 0), (.bool false), (.int .i64 0), (.int .i64 0), (.int .i64 0), (.int .i64 0), (.int .i64 0), (.bool false), (.int .i64 0), (.int .i64 0), (.int .i64 0), (.int .i64 0), (.int .i64 0), (.bool false), (.int .i64 0), (.int .i64 0), (.int .i64 0), (.int .i64 0), (.int .i64 0), (.bool false)], [(0, 6), (6, 6), (12, 6), (18, 6), (24, 6), (30, 6), (36, 6), (42, 6), (48, 6), (54, 6), (60, 6), (66, 6), (72, 6), (78, 6), (84, 6), (90, 6), (96, 6), (102, 6), (108, 6), (114, 6), (120, 6), (126, 6), (132, 6), (138, 6), (144, 6), (150, 6), (156, 6), (162, 6), (168, 6), (174, 6), (180, 6), (186, 6), (192, 6)]) := by kernel_rfl
theorem tf447 : lsz Tryz.prog 100 = some (true, 2) := by kernel_rfl
theorem tf448 : knownT Tryz.prog 100 = true := by kernel_rfl
theorem tf449 : isStrT Tryz.prog 100 = false := by kernel_rfl
theorem tf450 : isBoolT Tryz.prog 100 = false := by kernel_rfl
theorem tf451 : isIfaceT Tryz.prog 100 = false := by kernel_rfl
theorem tf452 : ink Tryz.prog 100 = none := by kernel_rfl
theorem tf453 : sle Tryz.prog 100 = none := by kernel_rfl
theorem tf454 : are Tryz.prog 100 = some (2, false, 1) := by kernel_rfl
theorem tf455 : zc Tryz.prog 100 = some [(.int .i64 0), (.int .i64 0)] := by kernel_rfl
theorem tf456 : mpt Tryz.prog 100 = none := by kernel_rfl
theorem tf457 : steq Tryz.prog 100 = some [3, 3] := by kernel_rfl
theorem tf458 : zp Tryz.prog 100 = some ([(.int .i64 0), (.int .i64 0)], [(0, 1), (1, 1)]) := by kernel_rfl
theorem tf459 : lsz Tryz.prog 101 = some (false, 1) := by kernel_rfl
theorem tf460 : knownT Tryz.prog 101 = true := by kernel_rfl
theorem tf461 : isStrT Tryz.prog 101 = false := by kernel_rfl
theorem tf462 : isBoolT Tryz.prog 101 = false := by kernel_rfl
theorem tf463 : isIfaceT Tryz.prog 101 = false := by kernel_rfl
theorem tf464 : ink Tryz.prog 101 = none := by kernel_rfl
theorem tf465 : sle Tryz.prog 101 = some (100, true, 2) := by kernel_rfl
theorem tf466 : eby Tryz.prog 101 = some 16 := by kernel_rfl
theorem tf467 : are Tryz.prog 101 = none := by kernel_rfl
theorem tf468 : zc Tryz.prog 101 = some [(.sl 0 [] .nil)] := by kernel_rfl
theorem tf469 : mpt Tryz.prog 101 = none := by kernel_rfl
theorem tf470 : lsz Tryz.prog 102 = some (true, 8) := by kernel_rfl
theorem tf471 : knownT Tryz.prog 102 = true := by kernel_rfl
theorem tf472 : isStrT Tryz.prog 102 = false := by kernel_rfl
theorem tf473 : isBoolT Tryz.prog 102 = false := by kernel_rfl
theorem tf474 : isIfaceT Tryz.prog 102 = false := by kernel_rfl
theorem tf475 : ink Tryz.prog 102 = none := by kernel_rfl
theorem tf476 : sle Tryz.prog 102 = none := by kernel_rfl
theorem tf477 : are Tryz.prog 102 = some (8, false, 1) := by kernel_rfl
theorem tf478 : zc Tryz.prog 102 = some [(.int .i64 0), (.int .i64 0), (.int .i64 0), (.int .i64 0), (.int .i64 0), (.int .i64 0), (.int .i64 0), (.int .i64 0)] := by kernel_rfl
theorem tf479 : mpt Tryz.prog 102 = none := by kernel_rfl
theorem tf480 : steq Tryz.prog 102 = some (List.replicate 8 3) := by kernel_rfl
theorem tf481 : zp Tryz.prog 102 = some ([(.int .i64 0), (.int .i64 0), (.int .i64 0), (.int .i64 0), (.int .i64 0), (.int .i64 0), (.int .i64 0), (.int .i64 0)], [(0, 1), (1, 1), (2, 1), (3, 1), (4, 1), (5, 1), (6, 1), (7, 1)]) := by kernel_rfl
theorem tf482 : lsz Tryz.prog 105 = some (false, 1) := by kernel_rfl
theorem tf483 : knownT Tryz.prog 105 = true := by kernel_rfl
theorem tf484 : isStrT Tryz.prog 105 = false := by kernel_rfl
theorem tf485 : isBoolT Tryz.prog 105 = false := by kernel_rfl
theorem tf486 : isIfaceT Tryz.prog 105 = false := by kernel_rfl
theorem tf487 : ink Tryz.prog 105 = none := by kernel_rfl
theorem tf488 : sle Tryz.prog 105 = some (107, true, 3) := by kernel_rfl
theorem tf489 : eby Tryz.prog 105 = some 40 := by kernel_rfl
theorem tf490 : are Tryz.prog 105 = none := by kernel_rfl
theorem tf491 : zc Tryz.prog 105 = some [(.sl 0 [] .nil)] := by kernel_rfl
theorem tf492 : mpt Tryz.prog 105 = none := by kernel_rfl
theorem tf493 : lsz Tryz.prog 107 = some (true, 3) := by kernel_rfl
theorem tf494 : knownT Tryz.prog 107 = true := by kernel_rfl
theorem tf495 : isStrT Tryz.prog 107 = false := by kernel_rfl
theorem tf496 : isBoolT Tryz.prog 107 = false := by kernel_rfl
theorem tf497 : isIfaceT Tryz.prog 107 = false := by kernel_rfl
theorem tf498 : ink Tryz.prog 107 = none := by kernel_rfl
theorem tf499 : sle Tryz.prog 107 = none := by kernel_rfl
theorem tf500 : are Tryz.prog 107 = none := by kernel_rfl
theorem tf501 : zc Tryz.prog 107 = some [(.int .i64 0), (.int .i64 0), (.sl 0 [] .nil)] := by kernel_rfl
theorem tf502 : fld Tryz.prog 107 0 = some (0, false, 1) := by kernel_rfl
theorem tf503 : fld Tryz.prog 107 1 = some (1, false, 1) := by kernel_rfl
theorem tf504 : fld Tryz.prog 107 2 = some (2, false, 1) := by kernel_rfl
theorem tf505 : zp Tryz.prog 107 = some ([(.int .i64 0), (.int .i64 0), (.sl 0 [] .nil)], [(0, 1), (1, 1), (2, 1)]) := by kernel_rfl
theorem tf506 : mpt Tryz.prog 107 = none := by kernel_rfl
theorem tf507 : lsz Tryz.prog 109 = some (true, 4) := by kernel_rfl
theorem tf508 : knownT Tryz.prog 109 = true := by kernel_rfl
theorem tf509 : isStrT Tryz.prog 109 = false := by kernel_rfl
theorem tf510 : isBoolT Tryz.prog 109 = false := by kernel_rfl
theorem tf511 : isIfaceT Tryz.prog 109 = false := by kernel_rfl
theorem tf512 : ink Tryz.prog 109 = none := by kernel_rfl
theorem tf513 : sle Tryz.prog 109 = none := by kernel_rfl
theorem tf514 : are Tryz.prog 109 = none := by kernel_rfl
theorem tf515 : zc Tryz.prog 109 = some [(.int .i64 0), (.int .i64 0), (.int .i64 0), (.sl 0 [] .nil)] := by kernel_rfl
theorem tf516 : fld Tryz.prog 109 0 = some (0, false, 1) := by kernel_rfl
theorem tf517 : fld Tryz.prog 109 1 = some (1, true, 3) := by kernel_rfl
theorem tf518 : zp Tryz.prog 109 = some ([(.int .i64 0), (.int .i64 0), (.int .i64 0), (.sl 0 [] .nil)], [(0, 1), (1, 3)]) := by kernel_rfl
theorem tf519 : mpt Tryz.prog 109 = none := by kernel_rfl
theorem tf520 : lsz Tryz.prog 110 = some (false, 1) := by kernel_rfl
theorem tf521 : knownT Tryz.prog 110 = true := by kernel_rfl
theorem tf522 : isStrT Tryz.prog 110 = false := by kernel_rfl
theorem tf523 : isBoolT Tryz.prog 110 = false := by kernel_rfl
theorem tf524 : isIfaceT Tryz.prog 110 = false := by kernel_rfl
theorem tf525 : ink Tryz.prog 110 = none := by kernel_rfl
theorem tf526 : sle Tryz.prog 110 = some (117, true, 4) := by kernel_rfl
theorem tf527 : eby Tryz.prog 110 = some 32 := by kernel_rfl
theorem tf528 : are Tryz.prog 110 = none := by kernel_rfl
theorem tf529 : zc Tryz.prog 110 = some [(.sl 0 [] .nil)] := by kernel_rfl
theorem tf530 : mpt Tryz.prog 110 = none := by kernel_rfl
theorem tf531 : lsz Tryz.prog 111 = some (false, 1) := by kernel_rfl
theorem tf532 : knownT Tryz.prog 111 = true := by kernel_rfl
theorem tf533 : isStrT Tryz.prog 111 = false := by kernel_rfl
theorem tf534 : isBoolT Tryz.prog 111 = false := by kernel_rfl
theorem tf535 : isIfaceT Tryz.prog 111 = false := by kernel_rfl
theorem tf536 : ink Tryz.prog 111 = none := by kernel_rfl
theorem tf537 : sle Tryz.prog 111 = some (120, true, 2) := by kernel_rfl
theorem tf538 : eby Tryz.prog 111 = some 16 := by kernel_rfl
theorem tf539 : are Tryz.prog 111 = none := by kernel_rfl
theorem tf540 : zc Tryz.prog 111 = some [(.sl 0 [] .nil)] := by kernel_rfl
theorem tf541 : mpt Tryz.prog 111 = none := by kernel_rfl
theorem tf542 : lsz Tryz.prog 112 = some (false, 1) := by kernel_rfl
theorem tf543 : knownT Tryz.prog 112 = true := by kernel_rfl
theorem tf544 : isStrT Tryz.prog 112 = false := by kernel_rfl
theorem tf545 : isBoolT Tryz.prog 112 = false := by kernel_rfl
theorem tf546 : isIfaceT Tryz.prog 112 = false := by kernel_rfl
theorem tf547 : ink Tryz.prog 112 = none := by kernel_rfl
theorem tf548 : sle Tryz.prog 112 = some (109, true, 4) := by kernel_rfl
theorem tf549 : eby Tryz.prog 112 = some 48 := by kernel_rfl
theorem tf550 : are Tryz.prog 112 = none := by kernel_rfl
theorem tf551 : zc Tryz.prog 112 = some [(.sl 0 [] .nil)] := by kernel_rfl
theorem tf552 : mpt Tryz.prog 112 = none := by kernel_rfl
theorem tf553 : lsz Tryz.prog 114 = some (true, 4) := by kernel_rfl
theorem tf554 : knownT Tryz.prog 114 = true := by kernel_rfl
theorem tf555 : isStrT Tryz.prog 114 = false := by kernel_rfl
theorem tf556 : isBoolT Tryz.prog 114 = false := by kernel_rfl
theorem tf557 : isIfaceT Tryz.prog 114 = false := by kernel_rfl
theorem tf558 : ink Tryz.prog 114 = none := by kernel_rfl
theorem tf559 : sle Tryz.prog 114 = none := by kernel_rfl
theorem tf560 : are Tryz.prog 114 = none := by kernel_rfl
theorem tf561 : zc Tryz.prog 114 = some [(.int .i64 0), (.sl 0 [] .nil), (.sl 0 [] .nil), (.sl 0 [] .nil)] := by kernel_rfl
theorem tf562 : fld Tryz.prog 114 0 = some (0, false, 1) := by kernel_rfl
theorem tf563 : fld Tryz.prog 114 1 = some (1, false, 1) := by kernel_rfl
theorem tf564 : fld Tryz.prog 114 2 = some (2, false, 1) := by kernel_rfl
theorem tf565 : fld Tryz.prog 114 3 = some (3, false, 1) := by kernel_rfl
theorem tf566 : zp Tryz.prog 114 = some ([(.int .i64 0), (.sl 0 [] .nil), (.sl 0 [] .nil), (.sl 0 [] .nil)], [(0, 1), (1, 1), (2, 1), (3, 1)]) := by kernel_rfl
theorem tf567 : mpt Tryz.prog 114 = none := by kernel_rfl
theorem tf568 : lsz Tryz.prog 117 = some (true, 4) := by kernel_rfl
theorem tf569 : knownT Tryz.prog 117 = true := by kernel_rfl
theorem tf570 : isStrT Tryz.prog 117 = false := by kernel_rfl
theorem tf571 : isBoolT Tryz.prog 117 = false := by kernel_rfl
theorem tf572 : isIfaceT Tryz.prog 117 = false := by kernel_rfl
theorem tf573 : ink Tryz.prog 117 = none := by kernel_rfl
theorem tf574 : sle Tryz.prog 117 = none := by kernel_rfl
theorem tf575 : are Tryz.prog 117 = none := by kernel_rfl
theorem tf576 : zc Tryz.prog 117 = some [(.int .i64 0), (.int .i64 0), (.int .i64 0), (.bool false)] := by kernel_rfl
theorem tf577 : fld Tryz.prog 117 0 = some (0, false, 1) := by kernel_rfl
theorem tf578 : fld Tryz.prog 117 1 = some (1, false, 1) := by kernel_rfl
theorem tf579 : fld Tryz.prog 117 2 = some (2, false, 1) := by kernel_rfl
theorem tf580 : fld Tryz.prog 117 3 = some (3, false, 1) := by kernel_rfl
theorem tf581 : zp Tryz.prog 117 = some ([(.int .i64 0), (.int .i64 0), (.int .i64 0), (.bool false)], [(0, 1), (1, 1), (2, 1), (3, 1)]) := by kernel_rfl
theorem tf582 : mpt Tryz.prog 117 = none := by kernel_rfl
theorem tf583 : steq Tryz.prog 117 = some [3, 3, 3, 4] := by kernel_rfl
theorem tf584 : lsz Tryz.prog 120 = some (true, 2) := by kernel_rfl
theorem tf585 : knownT Tryz.prog 120 = true := by kernel_rfl
theorem tf586 : isStrT Tryz.prog 120 = false := by kernel_rfl
theorem tf587 : isBoolT Tryz.prog 120 = false := by kernel_rfl
theorem tf588 : isIfaceT Tryz.prog 120 = false := by kernel_rfl
theorem tf589 : ink Tryz.prog 120 = none := by kernel_rfl
theorem tf590 : sle Tryz.prog 120 = none := by kernel_rfl
theorem tf591 : are Tryz.prog 120 = none := by kernel_rfl
theorem tf592 : zc Tryz.prog 120 = some [(.int .i64 0), (.int .i64 0)] := by kernel_rfl
theorem tf593 : fld Tryz.prog 120 0 = some (0, false, 1) := by kernel_rfl
theorem tf594 : fld Tryz.prog 120 1 = some (1, false, 1) := by kernel_rfl
theorem tf595 : zp Tryz.prog 120 = some ([(.int .i64 0), (.int .i64 0)], [(0, 1), (1, 1)]) := by kernel_rfl
theorem tf596 : mpt Tryz.prog 120 = none := by kernel_rfl
theorem tf597 : steq Tryz.prog 120 = some [3, 3] := by kernel_rfl
theorem tf598 : lsz Tryz.prog 124 = some (false, 1) := by kernel_rfl
theorem tf599 : knownT Tryz.prog 124 = true := by kernel_rfl
theorem tf600 : isStrT Tryz.prog 124 = false := by kernel_rfl
theorem tf601 : isBoolT Tryz.prog 124 = false := by kernel_rfl
theorem tf602 : isIfaceT Tryz.prog 124 = false := by kernel_rfl
theorem tf603 : ink Tryz.prog 124 = none := by kernel_rfl
theorem tf604 : sle Tryz.prog 124 = none := by kernel_rfl
theorem tf605 : are Tryz.prog 124 = none := by kernel_rfl
theorem tf606 : zc Tryz.prog 124 = some [(.v .nilFunc)] := by kernel_rfl
theorem tf607 : mpt Tryz.prog 124 = none := by kernel_rfl
theorem tf608 : lsz Tryz.prog 126 = some (false, 1) := by kernel_rfl
theorem tf609 : knownT Tryz.prog 126 = true := by kernel_rfl
theorem tf610 : isStrT Tryz.prog 126 = false := by kernel_rfl
theorem tf611 : isBoolT Tryz.prog 126 = false := by kernel_rfl
theorem tf612 : isIfaceT Tryz.prog 126 = false := by kernel_rfl
theorem tf613 : ink Tryz.prog 126 = none := by kernel_rfl
theorem tf614 : sle Tryz.prog 126 = none := by kernel_rfl
theorem tf615 : are Tryz.prog 126 = none := by kernel_rfl
theorem tf616 : zc Tryz.prog 126 = some [(.v (.map none))] := by kernel_rfl
theorem tf617 : mpt Tryz.prog 126 = some (3, 150) := by kernel_rfl
theorem tf618 : lsz Tryz.prog 130 = some (false, 1) := by kernel_rfl
theorem tf619 : knownT Tryz.prog 130 = true := by kernel_rfl
theorem tf620 : isStrT Tryz.prog 130 = false := by kernel_rfl
theorem tf621 : isBoolT Tryz.prog 130 = false := by kernel_rfl
theorem tf622 : isIfaceT Tryz.prog 130 = false := by kernel_rfl
theorem tf623 : ink Tryz.prog 130 = none := by kernel_rfl
theorem tf624 : sle Tryz.prog 130 = none := by kernel_rfl
theorem tf625 : are Tryz.prog 130 = none := by kernel_rfl
theorem tf626 : zc Tryz.prog 130 = some [(.v .nilFunc)] := by kernel_rfl
theorem tf627 : mpt Tryz.prog 130 = none := by kernel_rfl
theorem tf628 : lsz Tryz.prog 132 = some (true, 2) := by kernel_rfl
theorem tf629 : knownT Tryz.prog 132 = true := by kernel_rfl
theorem tf630 : isStrT Tryz.prog 132 = false := by kernel_rfl
theorem tf631 : isBoolT Tryz.prog 132 = false := by kernel_rfl
theorem tf632 : isIfaceT Tryz.prog 132 = false := by kernel_rfl
theorem tf633 : ink Tryz.prog 132 = none := by kernel_rfl
theorem tf634 : sle Tryz.prog 132 = none := by kernel_rfl
theorem tf635 : are Tryz.prog 132 = none := by kernel_rfl
theorem tf636 : zc Tryz.prog 132 = some [(.int .u8 0), (.int .i64 0)] := by kernel_rfl
theorem tf637 : fld Tryz.prog 132 0 = some (0, false, 1) := by kernel_rfl
theorem tf638 : fld Tryz.prog 132 1 = some (1, false, 1) := by kernel_rfl
theorem tf639 : zp Tryz.prog 132 = some ([(.int .u8 0), (.int .i64 0)], [(0, 1), (1, 1)]) := by kernel_rfl
theorem tf640 : mpt Tryz.prog 132 = none := by kernel_rfl
theorem tf641 : steq Tryz.prog 132 = some [5, 3] := by kernel_rfl
theorem tf642 : lsz Tryz.prog 134 = some (true, 3) := by kernel_rfl
theorem tf643 : knownT Tryz.prog 134 = true := by kernel_rfl
theorem tf644 : isStrT Tryz.prog 134 = false := by kernel_rfl
theorem tf645 : isBoolT Tryz.prog 134 = false := by kernel_rfl
theorem tf646 : isIfaceT Tryz.prog 134 = false := by kernel_rfl
theorem tf647 : ink Tryz.prog 134 = none := by kernel_rfl
theorem tf648 : sle Tryz.prog 134 = none := by kernel_rfl
theorem tf649 : are Tryz.prog 134 = none := by kernel_rfl
theorem tf650 : zc Tryz.prog 134 = some [(.int .u8 0), (.int .u8 0), (.int .i64 0)] := by kernel_rfl
theorem tf651 : fld Tryz.prog 134 0 = some (0, false, 1) := by kernel_rfl
theorem tf652 : fld Tryz.prog 134 1 = some (1, false, 1) := by kernel_rfl
theorem tf653 : fld Tryz.prog 134 2 = some (2, false, 1) := by kernel_rfl
theorem tf654 : zp Tryz.prog 134 = some ([(.int .u8 0), (.int .u8 0), (.int .i64 0)], [(0, 1), (1, 1), (2, 1)]) := by kernel_rfl
theorem tf655 : mpt Tryz.prog 134 = none := by kernel_rfl
theorem tf656 : steq Tryz.prog 134 = some [5, 5, 3] := by kernel_rfl
theorem tf657 : lsz Tryz.prog 139 = some (true, 2) := by kernel_rfl
theorem tf658 : knownT Tryz.prog 139 = true := by kernel_rfl
theorem tf659 : isStrT Tryz.prog 139 = false := by kernel_rfl
theorem tf660 : isBoolT Tryz.prog 139 = false := by kernel_rfl
theorem tf661 : isIfaceT Tryz.prog 139 = false := by kernel_rfl
theorem tf662 : ink Tryz.prog 139 = none := by kernel_rfl
theorem tf663 : sle Tryz.prog 139 = none := by kernel_rfl
theorem tf664 : are Tryz.prog 139 = none := by kernel_rfl
theorem tf665 : zc Tryz.prog 139 = some [(.int .u8 0), (.int .u8 0)] := by kernel_rfl
theorem tf666 : fld Tryz.prog 139 0 = some (0, false, 1) := by kernel_rfl
theorem tf667 : fld Tryz.prog 139 1 = some (1, false, 1) := by kernel_rfl
theorem tf668 : zp Tryz.prog 139 = some ([(.int .u8 0), (.int .u8 0)], [(0, 1), (1, 1)]) := by kernel_rfl
theorem tf669 : mpt Tryz.prog 139 = none := by kernel_rfl
theorem tf670 : steq Tryz.prog 139 = some [5, 5] := by kernel_rfl
theorem tf671 : lsz Tryz.prog 140 = some (false, 1) := by kernel_rfl
theorem tf672 : knownT Tryz.prog 140 = true := by kernel_rfl
theorem tf673 : isStrT Tryz.prog 140 = false := by kernel_rfl
theorem tf674 : isBoolT Tryz.prog 140 = false := by kernel_rfl
theorem tf675 : isIfaceT Tryz.prog 140 = false := by kernel_rfl
theorem tf676 : ink Tryz.prog 140 = none := by kernel_rfl
theorem tf677 : sle Tryz.prog 140 = none := by kernel_rfl
theorem tf678 : are Tryz.prog 140 = none := by kernel_rfl
theorem tf679 : zc Tryz.prog 140 = some [(.v (.map none))] := by kernel_rfl
theorem tf680 : mpt Tryz.prog 140 = some (9, 4) := by kernel_rfl
theorem tf681 : lsz Tryz.prog 150 = some (true, 2) := by kernel_rfl
theorem tf682 : knownT Tryz.prog 150 = true := by kernel_rfl
theorem tf683 : isStrT Tryz.prog 150 = false := by kernel_rfl
theorem tf684 : isBoolT Tryz.prog 150 = false := by kernel_rfl
theorem tf685 : isIfaceT Tryz.prog 150 = false := by kernel_rfl
theorem tf686 : ink Tryz.prog 150 = none := by kernel_rfl
theorem tf687 : sle Tryz.prog 150 = none := by kernel_rfl
theorem tf688 : are Tryz.prog 150 = none := by kernel_rfl
theorem tf689 : zc Tryz.prog 150 = some [(.int .i64 0), (.int .i64 0)] := by kernel_rfl
theorem tf690 : fld Tryz.prog 150 0 = some (0, false, 1) := by kernel_rfl
theorem tf691 : fld Tryz.prog 150 1 = some (1, false, 1) := by kernel_rfl
theorem tf692 : zp Tryz.prog 150 = some ([(.int .i64 0), (.int .i64 0)], [(0, 1), (1, 1)]) := by kernel_rfl
theorem tf693 : mpt Tryz.prog 150 = none := by kernel_rfl
theorem tf694 : zval Tryz.prog 150 = some (.ag [(.int .i64 0), (.int .i64 0)]) := by kernel_rfl
theorem tf695 : steq Tryz.prog 150 = some [3, 3] := by kernel_rfl
theorem tf696 : lsz Tryz.prog 160 = some (true, 10) := by kernel_rfl
theorem tf697 : knownT Tryz.prog 160 = true := by kernel_rfl
theorem tf698 : isStrT Tryz.prog 160 = false := by kernel_rfl
theorem tf699 : isBoolT Tryz.prog 160 = false := by kernel_rfl
theorem tf700 : isIfaceT Tryz.prog 160 = false := by kernel_rfl
theorem tf701 : ink Tryz.prog 160 = none := by kernel_rfl
theorem tf702 : sle Tryz.prog 160 = none := by kernel_rfl
theorem tf703 : are Tryz.prog 160 = none := by kernel_rfl
theorem tf704 : zc Tryz.prog 160 = some [(.int .i64 0), (.int .i64 0), (.int .i64 0), (.int .i64 0), (.int .i64 0), (.int .i64 0), (.int .i64 0), (.int .i64 0), (.int .i64 0), (.int .i64 0)] := by kernel_rfl
theorem tf705 : fld Tryz.prog 160 0 = some (0, false, 1) := by kernel_rfl
theorem tf706 : fld Tryz.prog 160 1 = some (1, false, 1) := by kernel_rfl
theorem tf707 : fld Tryz.prog 160 2 = some (2, true, 8) := by kernel_rfl
theorem tf708 : zp Tryz.prog 160 = some ([(.int .i64 0), (.int .i64 0), (.int .i64 0), (.int .i64 0), (.int .i64 0), (.int .i64 0), (.int .i64 0), (.int .i64 0), (.int .i64 0), (.int .i64 0)], [(0, 1), (1, 1), (2, 8)]) := by kernel_rfl
theorem tf709 : mpt Tryz.prog 160 = none := by kernel_rfl
theorem tf710 : lsz Tryz.prog 163 = some (false, 1) := by kernel_rfl
theorem tf711 : knownT Tryz.prog 163 = true := by kernel_rfl
theorem tf712 : isStrT Tryz.prog 163 = false := by kernel_rfl
theorem tf713 : isBoolT Tryz.prog 163 = false := by kernel_rfl
theorem tf714 : isIfaceT Tryz.prog 163 = false := by kernel_rfl
theorem tf715 : ink Tryz.prog 163 = none := by kernel_rfl
theorem tf716 : sle Tryz.prog 163 = none := by kernel_rfl
theorem tf717 : are Tryz.prog 163 = none := by kernel_rfl
theorem tf718 : zc Tryz.prog 163 = some [(.v (.map none))] := by kernel_rfl
theorem tf719 : mpt Tryz.prog 163 = some (3, 203) := by kernel_rfl
theorem tf720 : lsz Tryz.prog 173 = some (false, 1) := by kernel_rfl
theorem tf721 : knownT Tryz.prog 173 = true := by kernel_rfl
theorem tf722 : isStrT Tryz.prog 173 = false := by kernel_rfl
theorem tf723 : isBoolT Tryz.prog 173 = false := by kernel_rfl
theorem tf724 : isIfaceT Tryz.prog 173 = false := by kernel_rfl
theorem tf725 : ink Tryz.prog 173 = none := by kernel_rfl
theorem tf726 : sle Tryz.prog 173 = none := by kernel_rfl
theorem tf727 : are Tryz.prog 173 = none := by kernel_rfl
theorem tf728 : zc Tryz.prog 173 = some [(.v .nilFunc)] := by kernel_rfl
theorem tf729 : mpt Tryz.prog 173 = none := by kernel_rfl
theorem tf730 : lsz Tryz.prog 175 = some (false, 1) := by kernel_rfl
theorem tf731 : knownT Tryz.prog 175 = true := by kernel_rfl
theorem tf732 : isStrT Tryz.prog 175 = false := by kernel_rfl
theorem tf733 : isBoolT Tryz.prog 175 = false := by kernel_rfl
theorem tf734 : isIfaceT Tryz.prog 175 = false := by kernel_rfl
theorem tf735 : ink Tryz.prog 175 = none := by kernel_rfl
theorem tf736 : sle Tryz.prog 175 = none := by kernel_rfl
theorem tf737 : are Tryz.prog 175 = none := by kernel_rfl
theorem tf738 : zc Tryz.prog 175 = some [(.v .nilFunc)] := by kernel_rfl
theorem tf739 : mpt Tryz.prog 175 = none := by kernel_rfl
theorem tf740 : lsz Tryz.prog 179 = some (false, 1) := by kernel_rfl
theorem tf741 : knownT Tryz.prog 179 = true := by kernel_rfl
theorem tf742 : isStrT Tryz.prog 179 = false := by kernel_rfl
theorem tf743 : isBoolT Tryz.prog 179 = false := by kernel_rfl
theorem tf744 : isIfaceT Tryz.prog 179 = false := by kernel_rfl
theorem tf745 : ink Tryz.prog 179 = none := by kernel_rfl
theorem tf746 : sle Tryz.prog 179 = none := by kernel_rfl
theorem tf747 : are Tryz.prog 179 = none := by kernel_rfl
theorem tf748 : zc Tryz.prog 179 = some [(.v .nilFunc)] := by kernel_rfl
theorem tf749 : mpt Tryz.prog 179 = none := by kernel_rfl
theorem tf750 : lsz Tryz.prog 183 = some (false, 1) := by kernel_rfl
theorem tf751 : knownT Tryz.prog 183 = true := by kernel_rfl
theorem tf752 : isStrT Tryz.prog 183 = false := by kernel_rfl
theorem tf753 : isBoolT Tryz.prog 183 = false := by kernel_rfl
theorem tf754 : isIfaceT Tryz.prog 183 = false := by kernel_rfl
theorem tf755 : ink Tryz.prog 183 = none := by kernel_rfl
theorem tf756 : sle Tryz.prog 183 = some (189, true, 5) := by kernel_rfl
theorem tf757 : eby Tryz.prog 183 = some 40 := by kernel_rfl
theorem tf758 : are Tryz.prog 183 = none := by kernel_rfl
theorem tf759 : zc Tryz.prog 183 = some [(.sl 0 [] .nil)] := by kernel_rfl
theorem tf760 : mpt Tryz.prog 183 = none := by kernel_rfl
theorem tf761 : lsz Tryz.prog 185 = some (false, 1) := by kernel_rfl
theorem tf762 : knownT Tryz.prog 185 = true := by kernel_rfl
theorem tf763 : isStrT Tryz.prog 185 = false := by kernel_rfl
theorem tf764 : isBoolT Tryz.prog 185 = false := by kernel_rfl
theorem tf765 : isIfaceT Tryz.prog 185 = false := by kernel_rfl
theorem tf766 : ink Tryz.prog 185 = none := by kernel_rfl
theorem tf767 : sle Tryz.prog 185 = none := by kernel_rfl
theorem tf768 : are Tryz.prog 185 = none := by kernel_rfl
theorem tf769 : zc Tryz.prog 185 = some [(.v .nilFunc)] := by kernel_rfl
theorem tf770 : mpt Tryz.prog 185 = none := by kernel_rfl
theorem tf771 : lsz Tryz.prog 187 = some (true, 2) := by kernel_rfl
theorem tf772 : knownT Tryz.prog 187 = true := by kernel_rfl
theorem tf773 : isStrT Tryz.prog 187 = false := by kernel_rfl
theorem tf774 : isBoolT Tryz.prog 187 = false := by kernel_rfl
theorem tf775 : isIfaceT Tryz.prog 187 = false := by kernel_rfl
theorem tf776 : ink Tryz.prog 187 = none := by kernel_rfl
theorem tf777 : sle Tryz.prog 187 = none := by kernel_rfl
theorem tf778 : are Tryz.prog 187 = none := by kernel_rfl
theorem tf779 : zc Tryz.prog 187 = some [(.int .i64 0), (.int .i64 0)] := by kernel_rfl
theorem tf780 : fld Tryz.prog 187 0 = some (0, false, 1) := by kernel_rfl
theorem tf781 : fld Tryz.prog 187 1 = some (1, false, 1) := by kernel_rfl
theorem tf782 : zp Tryz.prog 187 = some ([(.int .i64 0), (.int .i64 0)], [(0, 1), (1, 1)]) := by kernel_rfl
theorem tf783 : mpt Tryz.prog 187 = none := by kernel_rfl
theorem tf784 : steq Tryz.prog 187 = some [3, 3] := by kernel_rfl
theorem tf785 : lsz Tryz.prog 189 = some (true, 5) := by kernel_rfl
theorem tf786 : knownT Tryz.prog 189 = true := by kernel_rfl
theorem tf787 : isStrT Tryz.prog 189 = false := by kernel_rfl
theorem tf788 : isBoolT Tryz.prog 189 = false := by kernel_rfl
theorem tf789 : isIfaceT Tryz.prog 189 = false := by kernel_rfl
theorem tf790 : ink Tryz.prog 189 = none := by kernel_rfl
theorem tf791 : sle Tryz.prog 189 = none := by kernel_rfl
theorem tf792 : are Tryz.prog 189 = none := by kernel_rfl
theorem tf793 : zc Tryz.prog 189 = some [(.int .i64 0), (.int .i64 0), (.int .i64 0), (.int .i64 0), (.int .i64 0)] := by kernel_rfl
theorem tf794 : fld Tryz.prog 189 0 = some (0, false, 1) := by kernel_rfl
theorem tf795 : fld Tryz.prog 189 1 = some (1, true, 2) := by kernel_rfl
theorem tf796 : fld Tryz.prog 189 2 = some (3, true, 2) := by kernel_rfl
theorem tf797 : zp Tryz.prog 189 = some ([(.int .i64 0), (.int .i64 0), (.int .i64 0), (.int .i64 0), (.int .i64 0)], [(0, 1), (1, 2), (3, 2)]) := by kernel_rfl
theorem tf798 : mpt Tryz.prog 189 = none := by kernel_rfl
theorem tf799 : lsz Tryz.prog 198 = some (false, 1) := by kernel_rfl
theorem tf800 : knownT Tryz.prog 198 = true := by kernel_rfl
theorem tf801 : isStrT Tryz.prog 198 = false := by kernel_rfl
theorem tf802 : isBoolT Tryz.prog 198 = false := by kernel_rfl
theorem tf803 : isIfaceT Tryz.prog 198 = false := by kernel_rfl
theorem tf804 : ink Tryz.prog 198 = none := by kernel_rfl
theorem tf805 : sle Tryz.prog 198 = none := by kernel_rfl
theorem tf806 : are Tryz.prog 198 = none := by kernel_rfl
theorem tf807 : zc Tryz.prog 198 = some [(.v (.pointer none))] := by kernel_rfl
theorem tf808 : mpt Tryz.prog 198 = none := by kernel_rfl
theorem tf809 : lsz Tryz.prog 203 = some (false, 1) := by kernel_rfl
theorem tf810 : knownT Tryz.prog 203 = true := by kernel_rfl
theorem tf811 : isStrT Tryz.prog 203 = false := by kernel_rfl
theorem tf812 : isBoolT Tryz.prog 203 = false := by kernel_rfl
theorem tf813 : isIfaceT Tryz.prog 203 = false := by kernel_rfl
theorem tf814 : ink Tryz.prog 203 = none := by kernel_rfl
theorem tf815 : sle Tryz.prog 203 = none := by kernel_rfl
theorem tf816 : are Tryz.prog 203 = none := by kernel_rfl
theorem tf817 : zc Tryz.prog 203 = some [(.v .nilFunc)] := by kernel_rfl
theorem tf818 : mpt Tryz.prog 203 = none := by kernel_rfl
theorem tf819 : zval Tryz.prog 203 = some (.v .nilFunc) := by kernel_rfl
theorem tf820 : lsz Tryz.prog 211 = some (false, 1) := by kernel_rfl
theorem tf821 : knownT Tryz.prog 211 = true := by kernel_rfl
theorem tf822 : isStrT Tryz.prog 211 = false := by kernel_rfl
theorem tf823 : isBoolT Tryz.prog 211 = false := by kernel_rfl
theorem tf824 : isIfaceT Tryz.prog 211 = false := by kernel_rfl
theorem tf825 : ink Tryz.prog 211 = none := by kernel_rfl
theorem tf826 : sle Tryz.prog 211 = none := by kernel_rfl
theorem tf827 : are Tryz.prog 211 = none := by kernel_rfl
theorem tf828 : zc Tryz.prog 211 = some [(.v .nilFunc)] := by kernel_rfl
theorem tf829 : mpt Tryz.prog 211 = none := by kernel_rfl
theorem tf830 : lsz Tryz.prog 213 = some (false, 1) := by kernel_rfl
theorem tf831 : knownT Tryz.prog 213 = true := by kernel_rfl
theorem tf832 : isStrT Tryz.prog 213 = false := by kernel_rfl
theorem tf833 : isBoolT Tryz.prog 213 = false := by kernel_rfl
theorem tf834 : isIfaceT Tryz.prog 213 = false := by kernel_rfl
theorem tf835 : ink Tryz.prog 213 = none := by kernel_rfl
theorem tf836 : sle Tryz.prog 213 = none := by kernel_rfl
theorem tf837 : are Tryz.prog 213 = none := by kernel_rfl
theorem tf838 : zc Tryz.prog 213 = some [(.v (.map none))] := by kernel_rfl
theorem tf839 : mpt Tryz.prog 213 = some (3, 244) := by kernel_rfl
theorem tf840 : lsz Tryz.prog 223 = some (false, 1) := by kernel_rfl
theorem tf841 : knownT Tryz.prog 223 = true := by kernel_rfl
theorem tf842 : isStrT Tryz.prog 223 = false := by kernel_rfl
theorem tf843 : isBoolT Tryz.prog 223 = false := by kernel_rfl
theorem tf844 : isIfaceT Tryz.prog 223 = false := by kernel_rfl
theorem tf845 : ink Tryz.prog 223 = none := by kernel_rfl
theorem tf846 : sle Tryz.prog 223 = none := by kernel_rfl
theorem tf847 : are Tryz.prog 223 = none := by kernel_rfl
theorem tf848 : zc Tryz.prog 223 = some [(.v (.map none))] := by kernel_rfl
theorem tf849 : mpt Tryz.prog 223 = some (3, 45) := by kernel_rfl
theorem tf850 : lsz Tryz.prog 227 = some (false, 1) := by kernel_rfl
theorem tf851 : knownT Tryz.prog 227 = true := by kernel_rfl
theorem tf852 : isStrT Tryz.prog 227 = false := by kernel_rfl
theorem tf853 : isBoolT Tryz.prog 227 = false := by kernel_rfl
theorem tf854 : isIfaceT Tryz.prog 227 = false := by kernel_rfl
theorem tf855 : ink Tryz.prog 227 = none := by kernel_rfl
theorem tf856 : sle Tryz.prog 227 = none := by kernel_rfl
theorem tf857 : are Tryz.prog 227 = none := by kernel_rfl
theorem tf858 : zc Tryz.prog 227 = some [(.v .nilFunc)] := by kernel_rfl
theorem tf859 : mpt Tryz.prog 227 = none := by kernel_rfl
theorem tf860 : lsz Tryz.prog 233 = some (true, 3) := by kernel_rfl
theorem tf861 : knownT Tryz.prog 233 = true := by kernel_rfl
theorem tf862 : isStrT Tryz.prog 233 = false := by kernel_rfl
theorem tf863 : isBoolT Tryz.prog 233 = false := by kernel_rfl
theorem tf864 : isIfaceT Tryz.prog 233 = false := by kernel_rfl
theorem tf865 : ink Tryz.prog 233 = none := by kernel_rfl
theorem tf866 : sle Tryz.prog 233 = none := by kernel_rfl
theorem tf867 : are Tryz.prog 233 = none := by kernel_rfl
theorem tf868 : zc Tryz.prog 233 = some [(.int .i64 0), (.int .i64 0), (.int .i64 0)] := by kernel_rfl
theorem tf869 : fld Tryz.prog 233 0 = some (0, false, 1) := by kernel_rfl
theorem tf870 : fld Tryz.prog 233 1 = some (1, false, 1) := by kernel_rfl
theorem tf871 : fld Tryz.prog 233 2 = some (2, false, 1) := by kernel_rfl
theorem tf872 : zp Tryz.prog 233 = some ([(.int .i64 0), (.int .i64 0), (.int .i64 0)], [(0, 1), (1, 1), (2, 1)]) := by kernel_rfl
theorem tf873 : mpt Tryz.prog 233 = none := by kernel_rfl
theorem tf874 : steq Tryz.prog 233 = some [3, 3, 3] := by kernel_rfl
theorem tf875 : lsz Tryz.prog 238 = some (true, 0) := by kernel_rfl
theorem tf876 : knownT Tryz.prog 238 = true := by kernel_rfl
theorem tf877 : isStrT Tryz.prog 238 = false := by kernel_rfl
theorem tf878 : isBoolT Tryz.prog 238 = false := by kernel_rfl
theorem tf879 : isIfaceT Tryz.prog 238 = false := by kernel_rfl
theorem tf880 : ink Tryz.prog 238 = none := by kernel_rfl
theorem tf881 : sle Tryz.prog 238 = none := by kernel_rfl
theorem tf882 : are Tryz.prog 238 = none := by kernel_rfl
theorem tf883 : zc Tryz.prog 238 = some [] := by kernel_rfl
theorem tf884 : zp Tryz.prog 238 = some ([], []) := by kernel_rfl
theorem tf885 : mpt Tryz.prog 238 = none := by kernel_rfl
theorem tf886 : lsz Tryz.prog 244 = some (true, 3) := by kernel_rfl
theorem tf887 : knownT Tryz.prog 244 = true := by kernel_rfl
theorem tf888 : isStrT Tryz.prog 244 = false := by kernel_rfl
theorem tf889 : isBoolT Tryz.prog 244 = false := by kernel_rfl
theorem tf890 : isIfaceT Tryz.prog 244 = false := by kernel_rfl
theorem tf891 : ink Tryz.prog 244 = none := by kernel_rfl
theorem tf892 : sle Tryz.prog 244 = none := by kernel_rfl
theorem tf893 : are Tryz.prog 244 = none := by kernel_rfl
theorem tf894 : zc Tryz.prog 244 = some [(.int .i64 0), (.int .i64 0), (.int .i64 0)] := by kernel_rfl
theorem tf895 : fld Tryz.prog 244 0 = some (0, false, 1) := by kernel_rfl
theorem tf896 : fld Tryz.prog 244 1 = some (1, false, 1) := by kernel_rfl
theorem tf897 : fld Tryz.prog 244 2 = some (2, false, 1) := by kernel_rfl
theorem tf898 : zp Tryz.prog 244 = some ([(.int .i64 0), (.int .i64 0), (.int .i64 0)], [(0, 1), (1, 1), (2, 1)]) := by kernel_rfl
theorem tf899 : mpt Tryz.prog 244 = none := by kernel_rfl
theorem tf900 : zval Tryz.prog 244 = some (.ag [(.int .i64 0), (.int .i64 0), (.int .i64 0)]) := by kernel_rfl
theorem tf901 : steq Tryz.prog 244 = some [3, 3, 3] := by kernel_rfl
theorem tf902 : lsz Tryz.prog 246 = some (false, 1) := by kernel_rfl
theorem tf903 : knownT Tryz.prog 246 = true := by kernel_rfl
theorem tf904 : isStrT Tryz.prog 246 = false := by kernel_rfl
theorem tf905 : isBoolT Tryz.prog 246 = false := by kernel_rfl
theorem tf906 : isIfaceT Tryz.prog 246 = false := by kernel_rfl
theorem tf907 : ink Tryz.prog 246 = some .u64 := by kernel_rfl
theorem tf908 : sle Tryz.prog 246 = none := by kernel_rfl
theorem tf909 : are Tryz.prog 246 = none := by kernel_rfl
theorem tf910 : zc Tryz.prog 246 = some [(.int .u64 0)] := by kernel_rfl
theorem tf911 : mpt Tryz.prog 246 = none := by kernel_rfl
theorem tf912 : lsz Tryz.prog 251 = some (false, 1) := by kernel_rfl
theorem tf913 : knownT Tryz.prog 251 = true := by kernel_rfl
theorem tf914 : isStrT Tryz.prog 251 = false := by kernel_rfl
theorem tf915 : isBoolT Tryz.prog 251 = false := by kernel_rfl
theorem tf916 : isIfaceT Tryz.prog 251 = false := by kernel_rfl
theorem tf917 : ink Tryz.prog 251 = none := by kernel_rfl
theorem tf918 : sle Tryz.prog 251 = none := by kernel_rfl
theorem tf919 : are Tryz.prog 251 = none := by kernel_rfl
theorem tf920 : zc Tryz.prog 251 = some [(.v (.map none))] := by kernel_rfl
theorem tf921 : mpt Tryz.prog 251 = some (3, 3) := by kernel_rfl
set_option maxRecDepth 100000
attribute [go_sem ↓] vo_nil vK_eq vo_q vo_g vo_n vo_c vd_nil dK_eq eK_eq vd_q vd_g vd_n vd_ap vd_cp vd_cps vd_st vd_c cgs_call cgs_builtin
attribute [go_sem] Ext_refl Ext_cons
attribute [go_sem] quiet_move quiet_assign quiet_pick quiet_binOp quiet_unOp quiet_convert quiet_field quiet_fieldAddr quiet_indexAddr quiet_index quiet_load quiet_lookup quiet_extract quiet_build quiet_makeInterface quiet_makeFunc quiet_slice quiet_nilCheck quiet_sap quiet_alloc isCall_alloc quiet_box isCall_box quiet_buildSlice isCall_buildSlice quiet_store isCall_store quiet_range isCall_range quiet_next isCall_next quiet_makeSlice isCall_makeSlice quiet_panic isCall_panic quiet_len quiet_cap quiet_min quiet_max quiet_append isCall_append quiet_copy isCall_copy quiet_delete isCall_delete nqk_alloc nqk_box nqk_buildSlice nqk_range nqk_next nqk_makeSlice nqk_panic nqk_makeMap nqk_entry nqk_delete isSt_alloc isSt_box isSt_buildSlice isSt_range isSt_next isSt_makeSlice isSt_panic isSt_makeMap isSt_entry isSt_store isSt_mapUpdate isSt_insert isSt_append isSt_copy isSt_delete quiet_makeMap isCall_makeMap quiet_mapUpdate isCall_mapUpdate quiet_insert isCall_insert
attribute [go_sem] argEnv qev opd put_some put_none set_at mk_cons mk_nil prune_eq D.ofV ofC_int ofC_nil ofC_str ofC_nilmap ofC_nilfunc ofC_nilptr true_and ofC_bool bop isSh ibop Bool.false_eq_true if_false if_true and_self D.core D.cg qpick isB bof gval look Option.bind_some opc cgs Op.operands List.all_cons List.all_nil Bool.and_true and_true true_imp_iff imp_self false_imp_iff beq_true beq_false beq_iff_eq decide_eq_true_eq List.map_cons List.map_nil Bool.not_eq_true' decide_eq_false_iff_not gof gq gev cond_some Option.isSome_some Bool.or_eq_true Bool.and_eq_true Bool.or_eq_false_iff Bool.and_eq_false_iff Bool.not_eq_true Bool.not_eq_false Bool.not_eq_false' ne_eq implies_true forall_const Bool.cond_true_left Bool.cond_false_right not_false_eq_true not_true_eq_false Int.toNat_natCast Int.toNat_zero
attribute [go_sem] qbuiltin qlook ments foldI mget mput keqD keyOK lookD_s lookD_n lookD_fs lookD_fn nput agop deqF deq1 nappZ cond_true cond_false Option.getD_some Option.getD_none Option.isSome_none ite_self qindex qslice qsap qconv qextract qfield qfaddr qiaddr qload quop qiface qbuild qnil ldC ldD ob List.drop_succ_cons take_mapr drop_mapr List.drop_zero List.take_succ_cons List.take_zero List.length_cons List.length_nil List.getElem?_cons_zero List.getElem?_cons_succ Option.map_some Option.map_none List.head?_cons
attribute [go_sem] nev isImm List.contains_cons List.contains_nil Bool.or_false Bool.or_true D.flat D.cellsOf D.isCell Bool.or_self Bool.and_self szOf nstore Store.get Store.upd putCells nk_cons not_or FZ frzE_mk frzL inL frz Store.del or_false boxCells List.headD_cons List.headD_nil List.nil_append List.append_nil List.cons_append List.drop_nil false_and and_false false_or true_or or_true Bool.false_and Bool.true_and Bool.false_or Bool.true_or Bool.and_false setPs lim_eq chunk zrep pls_eq plsF fillD resAll shop sbop bbop decide_true decide_false Bool.not_true Bool.not_false eq_self
attribute [go_sem] tf0 tf1 tf2 tf3 tf4 tf5 tf6 tf7 tf8 tf9 tf10 tf11 tf12 tf13 tf14 tf15 tf16 tf17 tf18 tf19 tf20 tf21 tf22 tf23 tf24 tf25 tf26 tf27 tf28 tf29 tf30 tf31 tf32 tf33 tf34 tf35 tf36 tf37 tf38 tf39 tf40 tf41 tf42 tf43 tf44 tf45 tf46 tf47 tf48 tf49 tf50 tf51 tf52 tf53 tf54 tf55 tf56 tf57 tf58 tf59 tf60 tf61 tf62 tf63 tf64 tf65 tf66 tf67 tf68 tf69 tf70 tf71 tf72 tf73 tf74 tf75 tf76 tf77 tf78 tf79 tf80 tf81 tf82 tf83 tf84 tf85 tf86 tf87 tf88 tf89 tf90 tf91 tf92 tf93 tf94 tf95 tf96 tf97 tf98 tf99 tf100 tf101 tf102 tf103 tf104 tf105 tf106 tf107 tf108 tf109 tf110 tf111 tf112 tf113 tf114 tf115 tf116 tf117 tf118 tf119 tf120 tf121 tf122 tf123 tf124 tf125 tf126 tf127 tf128 tf129 tf130 tf131 tf132 tf133 tf134 tf135 tf136 tf137 tf138 tf139 tf140 tf141 tf142 tf143 tf144 tf145 tf146 tf147 tf148 tf149 tf150 tf151 tf152 tf153 tf154 tf155 tf156 tf157 tf158 tf159 tf160 tf161 tf162 tf163 tf164 tf165 tf166 tf167 tf168 tf169 tf170 tf171 tf172 tf173 tf174 tf175 tf176 tf177 tf178 tf179 tf180 tf181 tf182 tf183 tf184 tf185 tf186 tf187 tf188 tf189 tf190 tf191 tf192 tf193 tf194 tf195 tf196 tf197 tf198 tf199 tf200 tf201 tf202 tf203 tf204 tf205 tf206 tf207 tf208 tf209 tf210 tf211 tf212 tf213 tf214 tf215 tf216 tf217 tf218 tf219 tf220 tf221 tf222 tf223 tf224 tf225 tf226 tf227 tf228 tf229 tf230 tf231 tf232 tf233 tf234 tf235 tf236 tf237 tf238 tf239 tf240 tf241 tf242 tf243 tf244 tf245 tf246 tf247 tf248 tf249 tf250 tf251 tf252 tf253 tf254 tf255 tf256 tf257 tf258 tf259 tf260 tf261 tf262 tf263 tf264 tf265 tf266 tf267 tf268 tf269 tf270 tf271 tf272 tf273 tf274 tf275 tf276 tf277 tf278 tf279 tf280 tf281 tf282 tf283 tf284 tf285 tf286 tf287 tf288 tf289 tf290 tf291 tf292 tf293 tf294 tf295 tf296 tf297 tf298 tf299 tf300 tf301 tf302 tf303 tf304 tf305 tf306 tf307 tf308 tf309 tf310 tf311 tf312 tf313 tf314 tf315 tf316 tf317 tf318 tf319 tf320 tf321 tf322 tf323 tf324 tf325 tf326 tf327 tf328 tf329 tf330 tf331 tf332 tf333 tf334 tf335 tf336 tf337 tf338 tf339 tf340 tf341 tf342 tf343 tf344 tf345 tf346 tf347 tf348 tf349 tf350 tf351 tf352 tf353 tf354 tf355 tf356 tf357 tf358 tf359 tf360 tf361 tf362 tf363 tf364 tf365 tf366 tf367 tf368 tf369 tf370 tf371 tf372 tf373 tf374 tf375 tf376 tf377 tf378 tf379 tf380 tf381 tf382 tf383 tf384 tf385 tf386 tf387 tf388 tf389 tf390 tf391 tf392 tf393 tf394 tf395 tf396 tf397 tf398 tf399 tf400 tf401 tf402 tf403 tf404 tf405 tf406 tf407 tf408 tf409 tf410 tf411 tf412 tf413 tf414 tf415 tf416 tf417 tf418 tf419 tf420 tf421 tf422 tf423 tf424 tf425 tf426 tf427 tf428 tf429 tf430 tf431 tf432 tf433 tf434 tf435 tf436 tf437 tf438 tf439 tf440 tf441 tf442 tf443 tf444 tf445 tf446 tf447 tf448 tf449 tf450 tf451 tf452 tf453 tf454 tf455 tf456 tf457 tf458 tf459 tf460 tf461 tf462 tf463 tf464 tf465 tf466 tf467 tf468 tf469 tf470 tf471 tf472 tf473 tf474 tf475 tf476 tf477 tf478 tf479 tf480 tf481 tf482 tf483 tf484 tf485 tf486 tf487 tf488 tf489 tf490 tf491 tf492 tf493 tf494 tf495 tf496 tf497 tf498 tf499 tf500 tf501 tf502 tf503 tf504 tf505 tf506 tf507 tf508 tf509 tf510 tf511 tf512 tf513 tf514 tf515 tf516 tf517 tf518 tf519 tf520 tf521 tf522 tf523 tf524 tf525 tf526 tf527 tf528 tf529 tf530 tf531 tf532 tf533 tf534 tf535 tf536 tf537 tf538 tf539 tf540 tf541 tf542 tf543 tf544 tf545 tf546 tf547 tf548 tf549 tf550 tf551 tf552 tf553 tf554 tf555 tf556 tf557 tf558 tf559 tf560 tf561 tf562 tf563 tf564 tf565 tf566 tf567 tf568 tf569 tf570 tf571 tf572 tf573 tf574 tf575 tf576 tf577 tf578 tf579 tf580 tf581 tf582 tf583 tf584 tf585 tf586 tf587 tf588 tf589 tf590 tf591 tf592 tf593 tf594 tf595 tf596 tf597 tf598 tf599 tf600 tf601 tf602 tf603 tf604 tf605 tf606 tf607 tf608 tf609 tf610 tf611 tf612 tf613 tf614 tf615 tf616 tf617 tf618 tf619 tf620 tf621 tf622 tf623 tf624 tf625 tf626 tf627 tf628 tf629 tf630 tf631 tf632 tf633 tf634 tf635 tf636 tf637 tf638 tf639 tf640 tf641 tf642 tf643 tf644 tf645 tf646 tf647 tf648 tf649 tf650 tf651 tf652 tf653 tf654 tf655 tf656 tf657 tf658 tf659 tf660 tf661 tf662 tf663 tf664 tf665 tf666 tf667 tf668 tf669 tf670 tf671 tf672 tf673 tf674 tf675 tf676 tf677 tf678 tf679 tf680 tf681 tf682 tf683 tf684 tf685 tf686 tf687 tf688 tf689 tf690 tf691 tf692 tf693 tf694 tf695 tf696 tf697 tf698 tf699 tf700 tf701 tf702 tf703 tf704 tf705 tf706 tf707 tf708 tf709 tf710 tf711 tf712 tf713 tf714 tf715 tf716 tf717 tf718 tf719 tf720 tf721 tf722 tf723 tf724 tf725 tf726 tf727 tf728 tf729 tf730 tf731 tf732 tf733 tf734 tf735 tf736 tf737 tf738 tf739 tf740 tf741 tf742 tf743 tf744 tf745 tf746 tf747 tf748 tf749 tf750 tf751 tf752 tf753 tf754 tf755 tf756 tf757 tf758 tf759 tf760 tf761 tf762 tf763 tf764 tf765 tf766 tf767 tf768 tf769 tf770 tf771 tf772 tf773 tf774 tf775 tf776 tf777 tf778 tf779 tf780 tf781 tf782 tf783 tf784 tf785 tf786 tf787 tf788 tf789 tf790 tf791 tf792 tf793 tf794 tf795 tf796 tf797 tf798 tf799 tf800 tf801 tf802 tf803 tf804 tf805 tf806 tf807 tf808 tf809 tf810 tf811 tf812 tf813 tf814 tf815 tf816 tf817 tf818 tf819 tf820 tf821 tf822 tf823 tf824 tf825 tf826 tf827 tf828 tf829 tf830 tf831 tf832 tf833 tf834 tf835 tf836 tf837 tf838 tf839 tf840 tf841 tf842 tf843 tf844 tf845 tf846 tf847 tf848 tf849 tf850 tf851 tf852 tf853 tf854 tf855 tf856 tf857 tf858 tf859 tf860 tf861 tf862 tf863 tf864 tf865 tf866 tf867 tf868 tf869 tf870 tf871 tf872 tf873 tf874 tf875 tf876 tf877 tf878 tf879 tf880 tf881 tf882 tf883 tf884 tf885 tf886 tf887 tf888 tf889 tf890 tf891 tf892 tf893 tf894 tf895 tf896 tf897 tf898 tf899 tf900 tf901 tf902 tf903 tf904 tf905 tf906 tf907 tf908 tf909 tf910 tf911 tf912 tf913 tf914 tf915 tf916 tf917 tf918 tf919 tf920 tf921
attribute [go_sem] Nat.reduceMul Nat.reduceAdd Nat.reduceBEq cond_false
end Go.Proofs.YtinhjbnljbmbcaaGreat
