/- Part 5 of the proof: Lk Lo. By AI agents; no person has read it. -/
import Derived.Test.YtcdofbhflocimaaGreatProg
import Derived.Test.YtcdofbhflocimaaGreatT0
import Derived.KernelRfl
import Derived.Test.YtcdofbhflocimaaGreatT1
set_option linter.unusedVariables false
set_option linter.unusedSimpArgs false
set_option linter.unusedSectionVars false
section
set_option maxRecDepth 100000
namespace Go.Lg
open Go.Proofs.Tryz
def bodyOf (f : Func) : Code := match f.body with
  | some c => c
  | none => .skip
noncomputable def tl0 : TyL := ⟨1, 0, none, t0.desc⟩
noncomputable def tl1 : TyL := ⟨1, 8, some (.nilFunc), t1.desc⟩
noncomputable def tl2 : TyL := ⟨1, 8, some (.int .i64 0), t2.desc⟩
noncomputable def tl3 : TyL := ⟨1, 8, some (.int .i64 0), t3.desc⟩
noncomputable def tl4 : TyL := ⟨1, 1, some (.bool false), t4.desc⟩
noncomputable def tl5 : TyL := ⟨1, 1, some (.int .u8 0), t5.desc⟩
noncomputable def tl6 : TyL := ⟨1, 1, some (.int .u8 0), t5.desc⟩
noncomputable def tl7 : TyL := ⟨4, 24, some (.agg [.int .i64 0, .int .i64 0, .bool false, .int .u8 0]), t7.desc⟩
noncomputable def tl8 : TyL := ⟨4, 24, some (.agg [.int .i64 0, .int .i64 0, .bool false, .int .u8 0]), t7.desc⟩
noncomputable def tl9 : TyL := ⟨1, 16, some (.str ⟨#[]⟩), t9.desc⟩
noncomputable def tl10 : TyL := ⟨1, 16, some (.str ⟨#[]⟩), t9.desc⟩
noncomputable def tl11 : TyL := ⟨1, 16, some (.str ⟨#[]⟩), t9.desc⟩
noncomputable def tl12 : TyL := ⟨1, 8, some (.int .u64 0), t12.desc⟩
noncomputable def tl13 : TyL := ⟨2, 24, some (.agg [.str ⟨#[]⟩, .int .u64 0]), t13.desc⟩
noncomputable def tl14 : TyL := ⟨2, 24, some (.agg [.str ⟨#[]⟩, .int .u64 0]), t13.desc⟩
noncomputable def tl15 : TyL := ⟨1, 8, some (.nilp), t15.desc⟩
noncomputable def tl16 : TyL := ⟨1, 8, some (.nilp), t16.desc⟩
noncomputable def tl17 : TyL := ⟨1, 8, some (.nilp), t17.desc⟩
noncomputable def tl18 : TyL := ⟨1, 8, some (.agg [.nilp]), t18.desc⟩
noncomputable def tl19 : TyL := ⟨1, 8, some (.agg [.nilp]), t18.desc⟩
noncomputable def tl20 : TyL := ⟨1, 16, some (.nilIface), t20.desc⟩
noncomputable def tl21 : TyL := ⟨1, 4, some (.int .i32 0), t21.desc⟩
noncomputable def tl22 : TyL := ⟨1, 24, some (.slice [] .exact (some true)), t22.desc⟩
noncomputable def tl23 : TyL := ⟨1, 24, some (.slice [] .exact (some true)), t23.desc⟩
noncomputable def tl24 : TyL := ⟨4, 56, some (.agg [.int .i64 0, .int .i64 0, .str ⟨#[]⟩, .slice [] .exact (some true)]), t24.desc⟩
noncomputable def tl25 : TyL := ⟨4, 56, some (.agg [.int .i64 0, .int .i64 0, .str ⟨#[]⟩, .slice [] .exact (some true)]), t24.desc⟩
noncomputable def tl26 : TyL := ⟨1, 24, some (.slice [] .exact (some true)), t26.desc⟩
noncomputable def tl27 : TyL := ⟨1, 24, some (.slice [] .exact (some true)), t27.desc⟩
noncomputable def tl28 : TyL := ⟨1, 24, some (.slice [] .exact (some true)), t28.desc⟩
noncomputable def tl29 : TyL := ⟨10, 168, some (.agg [.int .i64 0, .int .i64 0, .slice [] .exact (some true), .int .i64 0, .int .i64 0, .str ⟨#[]⟩, .slice [] .exact (some true), .slice [] .exact (some true), .slice [] .exact (some true), .slice [] .exact (some true)]), t29.desc⟩
noncomputable def tl30 : TyL := ⟨10, 168, some (.agg [.int .i64 0, .int .i64 0, .slice [] .exact (some true), .int .i64 0, .int .i64 0, .str ⟨#[]⟩, .slice [] .exact (some true), .slice [] .exact (some true), .slice [] .exact (some true), .slice [] .exact (some true)]), t29.desc⟩
noncomputable def tl31 : TyL := ⟨1, 24, some (.slice [] .exact (some true)), t31.desc⟩
noncomputable def tl32 : TyL := ⟨2, 2, some (.agg [.int .u8 0, .int .u8 0]), t32.desc⟩
noncomputable def tl33 : TyL := ⟨1, 8, some (.nilFunc), t33.desc⟩
noncomputable def tl34 : TyL := ⟨1, 8, some (.int .i64 0), t3.desc⟩
noncomputable def tl35 : TyL := ⟨1, 8, some (.nilFunc), t35.desc⟩
noncomputable def tl36 : TyL := ⟨1, 8, some (.nilFunc), t36.desc⟩
noncomputable def tl37 : TyL := ⟨1, 0, none, t37.desc⟩
noncomputable def tl38 : TyL := ⟨1, 8, some (.nilFunc), t38.desc⟩
noncomputable def tl39 : TyL := ⟨1, 8, some (.nilFunc), t39.desc⟩
noncomputable def tl40 : TyL := ⟨1, 8, some (.nilFunc), t40.desc⟩
noncomputable def tl41 : TyL := ⟨1, 24, some (.slice [] .exact (some true)), t41.desc⟩
noncomputable def tl42 : TyL := ⟨1, 24, some (.slice [] .exact (some true)), t42.desc⟩
noncomputable def tl43 : TyL := ⟨1, 24, some (.slice [] .exact (some true)), t43.desc⟩
noncomputable def tl44 : TyL := ⟨1, 24, some (.slice [] .exact (some true)), t44.desc⟩
noncomputable def tl45 : TyL := ⟨1, 24, some (.slice [] .exact (some true)), t45.desc⟩
noncomputable def tl46 : TyL := ⟨5, 120, some (.agg [.slice [] .exact (some true), .slice [] .exact (some true), .slice [] .exact (some true), .slice [] .exact (some true), .slice [] .exact (some true)]), t46.desc⟩
noncomputable def tl47 : TyL := ⟨5, 120, some (.agg [.slice [] .exact (some true), .slice [] .exact (some true), .slice [] .exact (some true), .slice [] .exact (some true), .slice [] .exact (some true)]), t46.desc⟩
noncomputable def tl48 : TyL := ⟨1, 8, some (.nilFunc), t48.desc⟩
noncomputable def tl49 : TyL := ⟨1, 8, some (.nilFunc), t49.desc⟩
noncomputable def tl50 : TyL := ⟨1, 24, some (.slice [] .exact (some true)), t50.desc⟩
noncomputable def tl51 : TyL := ⟨2, 40, some (.agg [.str ⟨#[]⟩, .slice [] .exact (some true)]), t51.desc⟩
noncomputable def tl52 : TyL := ⟨2, 40, some (.agg [.str ⟨#[]⟩, .slice [] .exact (some true)]), t51.desc⟩
noncomputable def tl53 : TyL := ⟨1, 24, some (.slice [] .exact (some true)), t53.desc⟩
noncomputable def tl54 : TyL := ⟨6, 112, some (.agg [.int .i64 0, .str ⟨#[]⟩, .slice [] .exact (some true), .str ⟨#[]⟩, .slice [] .exact (some true), .slice [] .exact (some true)]), t54.desc⟩
noncomputable def tl55 : TyL := ⟨6, 112, some (.agg [.int .i64 0, .str ⟨#[]⟩, .slice [] .exact (some true), .str ⟨#[]⟩, .slice [] .exact (some true), .slice [] .exact (some true)]), t54.desc⟩
noncomputable def tl56 : TyL := ⟨1, 8, some (.nilFunc), t56.desc⟩
noncomputable def tl57 : TyL := ⟨1, 0, none, t57.desc⟩
noncomputable def tl58 : TyL := ⟨1, 8, some (.nilFunc), t58.desc⟩
noncomputable def tl59 : TyL := ⟨1, 8, some (.nilFunc), t59.desc⟩
noncomputable def tl60 : TyL := ⟨1, 8, some (.nilFunc), t60.desc⟩
noncomputable def tl61 : TyL := ⟨3, 56, some (.agg [.int .i64 0, .slice [] .exact (some true), .slice [] .exact (some true)]), t61.desc⟩
noncomputable def tl62 : TyL := ⟨3, 56, some (.agg [.int .i64 0, .slice [] .exact (some true), .slice [] .exact (some true)]), t61.desc⟩
noncomputable def tl63 : TyL := ⟨6, 88, some (.agg [.int .i64 0, .int .i64 0, .int .i64 0, .str ⟨#[]⟩, .slice [] .exact (some true), .slice [] .exact (some true)]), t63.desc⟩
noncomputable def tl64 : TyL := ⟨6, 88, some (.agg [.int .i64 0, .int .i64 0, .int .i64 0, .str ⟨#[]⟩, .slice [] .exact (some true), .slice [] .exact (some true)]), t63.desc⟩
noncomputable def tl65 : TyL := ⟨1, 8, some (.nilFunc), t65.desc⟩
noncomputable def tl66 : TyL := ⟨1, 8, some (.nilFunc), t66.desc⟩
noncomputable def tl67 : TyL := ⟨1, 8, some (.nilFunc), t67.desc⟩
noncomputable def tl68 : TyL := ⟨1, 8, some (.nilFunc), t68.desc⟩
noncomputable def tl69 : TyL := ⟨1, 8, some (.nilFunc), t69.desc⟩
noncomputable def tl70 : TyL := ⟨1, 8, some (.nilFunc), t70.desc⟩
noncomputable def tl71 : TyL := ⟨1, 8, some (.nilFunc), t71.desc⟩
noncomputable def tl72 : TyL := ⟨1, 8, some (.nilFunc), t72.desc⟩
noncomputable def tl73 : TyL := ⟨1, 8, some (.nilFunc), t73.desc⟩
noncomputable def tl74 : TyL := ⟨1, 8, some (.nilFunc), t74.desc⟩
noncomputable def tl75 : TyL := ⟨1, 8, some (.nilFunc), t75.desc⟩
noncomputable def tl76 : TyL := ⟨3, 56, some (.agg [.str ⟨#[]⟩, .str ⟨#[]⟩, .slice [] .exact (some true)]), t76.desc⟩
noncomputable def tl77 : TyL := ⟨3, 56, some (.agg [.str ⟨#[]⟩, .str ⟨#[]⟩, .slice [] .exact (some true)]), t76.desc⟩
noncomputable def tl78 : TyL := ⟨4, 72, some (.agg [.str ⟨#[]⟩, .slice [] .exact (some true), .int .i64 0, .slice [] .exact (some true)]), t78.desc⟩
noncomputable def tl79 : TyL := ⟨4, 72, some (.agg [.str ⟨#[]⟩, .slice [] .exact (some true), .int .i64 0, .slice [] .exact (some true)]), t78.desc⟩
noncomputable def tl80 : TyL := ⟨1, 8, some (.nilFunc), t80.desc⟩
noncomputable def tl81 : TyL := ⟨8, 136, some (.agg [.str ⟨#[]⟩, .int .i64 0, .str ⟨#[]⟩, .slice [] .exact (some true), .str ⟨#[]⟩, .slice [] .exact (some true), .slice [] .exact (some true), .int .i64 0]), t81.desc⟩
noncomputable def tl82 : TyL := ⟨8, 136, some (.agg [.str ⟨#[]⟩, .int .i64 0, .str ⟨#[]⟩, .slice [] .exact (some true), .str ⟨#[]⟩, .slice [] .exact (some true), .slice [] .exact (some true), .int .i64 0]), t81.desc⟩
noncomputable def tl83 : TyL := ⟨1, 8, some (.nilFunc), t83.desc⟩
noncomputable def tl84 : TyL := ⟨1, 24, some (.slice [] .exact (some true)), t84.desc⟩
noncomputable def tl85 : TyL := ⟨13, 280, some (.agg [.slice [] .exact (some true), .slice [] .exact (some true), .slice [] .exact (some true), .slice [] .exact (some true), .slice [] .exact (some true), .slice [] .exact (some true), .slice [] .exact (some true), .int .i64 0, .str ⟨#[]⟩, .slice [] .exact (some true), .str ⟨#[]⟩, .slice [] .exact (some true), .slice [] .exact (some true)]), t85.desc⟩
noncomputable def tl86 : TyL := ⟨13, 280, some (.agg [.slice [] .exact (some true), .slice [] .exact (some true), .slice [] .exact (some true), .slice [] .exact (some true), .slice [] .exact (some true), .slice [] .exact (some true), .slice [] .exact (some true), .int .i64 0, .str ⟨#[]⟩, .slice [] .exact (some true), .str ⟨#[]⟩, .slice [] .exact (some true), .slice [] .exact (some true)]), t85.desc⟩
noncomputable def tl87 : TyL := ⟨1, 8, some (.int .u64 0), t87.desc⟩
noncomputable def tl88 : TyL := ⟨7, 56, some (.agg [.int .u64 0, .int .u64 0, .int .u64 0, .int .u64 0, .int .u64 0, .int .u64 0, .int .u64 0]), t88.desc⟩
noncomputable def tl89 : TyL := ⟨7, 56, some (.agg [.int .u64 0, .int .u64 0, .int .u64 0, .int .u64 0, .int .u64 0, .int .u64 0, .int .u64 0]), t88.desc⟩
noncomputable def tl90 : TyL := ⟨1, 0, none, t90.desc⟩
noncomputable def tl91 : TyL := ⟨1, 8, some (.nilFunc), t91.desc⟩
noncomputable def tl92 : TyL := ⟨14, 112, some (.agg [.int .i64 0, .int .i64 0, .int .i64 0, .int .i64 0, .int .i64 0, .int .i64 0, .int .i64 0, .int .i64 0, .int .i64 0, .int .i64 0, .int .i64 0, .int .i64 0, .int .i64 0, .int .i64 0]), t92.desc⟩
noncomputable def tl93 : TyL := ⟨1, 8, some (.nilFunc), t93.desc⟩
noncomputable def tl94 : TyL := ⟨1, 8, some (.nilFunc), t94.desc⟩
noncomputable def tl95 : TyL := ⟨1, 8, some (.nilFunc), t95.desc⟩
noncomputable def tl96 : TyL := ⟨1, 8, some (.nilFunc), t96.desc⟩
noncomputable def tl97 : TyL := ⟨1, 8, some (.nilFunc), t97.desc⟩
noncomputable def tl98 : TyL := ⟨1, 8, some (.nilFunc), t98.desc⟩
noncomputable def tl99 : TyL := ⟨1, 8, some (.nilFunc), t99.desc⟩
noncomputable def tl100 : TyL := ⟨1, 8, some (.nilFunc), t100.desc⟩
noncomputable def tl101 : TyL := ⟨1, 8, some (.nilFunc), t101.desc⟩
noncomputable def tl102 : TyL := ⟨1, 8, some (.agg [.int .i64 0]), t102.desc⟩
noncomputable def tl103 : TyL := ⟨1, 8, some (.agg [.int .i64 0]), t102.desc⟩
noncomputable def tl104 : TyL := ⟨1, 8, some (.nilp), t104.desc⟩
noncomputable def tl105 : TyL := ⟨1, 8, some (.agg [.int .i64 0]), t105.desc⟩
noncomputable def tl106 : TyL := ⟨1, 8, some (.agg [.int .i64 0]), t105.desc⟩
noncomputable def tl107 : TyL := ⟨1, 8, some (.nilFunc), t107.desc⟩
noncomputable def tl108 : TyL := ⟨1, 8, some (.nilFunc), t108.desc⟩
noncomputable def tl109 : TyL := ⟨1, 24, some (.agg [.slice [] .exact (some true)]), t109.desc⟩
noncomputable def tl110 : TyL := ⟨1, 24, some (.agg [.slice [] .exact (some true)]), t109.desc⟩
noncomputable def tl111 : TyL := ⟨0, 0, some (.agg []), t111.desc⟩
noncomputable def tl112 : TyL := ⟨0, 0, some (.agg []), t111.desc⟩
noncomputable def tl113 : TyL := ⟨1, 8, some (.nilFunc), t113.desc⟩
noncomputable def tl114 : TyL := ⟨1, 24, some (.slice [] .exact (some true)), t114.desc⟩
noncomputable def tl115 : TyL := ⟨24, 472, some (.agg [.slice [] .exact (some true), .slice [] .exact (some true), .slice [] .exact (some true), .slice [] .exact (some true), .slice [] .exact (some true), .slice [] .exact (some true), .slice [] .exact (some true), .int .i64 0, .str ⟨#[]⟩, .slice [] .exact (some true), .str ⟨#[]⟩, .slice [] .exact (some true), .slice [] .exact (some true), .slice [] .exact (some true), .int .i64 0, .int .i64 0, .slice [] .exact (some true), .int .i64 0, .int .i64 0, .str ⟨#[]⟩, .slice [] .exact (some true), .slice [] .exact (some true), .slice [] .exact (some true), .slice [] .exact (some true)]), t115.desc⟩
noncomputable def tl116 : TyL := ⟨24, 472, some (.agg [.slice [] .exact (some true), .slice [] .exact (some true), .slice [] .exact (some true), .slice [] .exact (some true), .slice [] .exact (some true), .slice [] .exact (some true), .slice [] .exact (some true), .int .i64 0, .str ⟨#[]⟩, .slice [] .exact (some true), .str ⟨#[]⟩, .slice [] .exact (some true), .slice [] .exact (some true), .slice [] .exact (some true), .int .i64 0, .int .i64 0, .slice [] .exact (some true), .int .i64 0, .int .i64 0, .str ⟨#[]⟩, .slice [] .exact (some true), .slice [] .exact (some true), .slice [] .exact (some true), .slice [] .exact (some true)]), t115.desc⟩
noncomputable def tl117 : TyL := ⟨1, 8, some (.nilFunc), t117.desc⟩
noncomputable def tl118 : TyL := ⟨7, 120, some (.agg [.int .i64 0, .str ⟨#[]⟩, .slice [] .exact (some true), .str ⟨#[]⟩, .slice [] .exact (some true), .slice [] .exact (some true), .int .i64 0]), t118.desc⟩
noncomputable def tl119 : TyL := ⟨7, 120, some (.agg [.int .i64 0, .str ⟨#[]⟩, .slice [] .exact (some true), .str ⟨#[]⟩, .slice [] .exact (some true), .slice [] .exact (some true), .int .i64 0]), t118.desc⟩
noncomputable def tl120 : TyL := ⟨1, 8, some (.nilFunc), t120.desc⟩
noncomputable def tl121 : TyL := ⟨1, 8, some (.nilFunc), t121.desc⟩
noncomputable def tl122 : TyL := ⟨1, 8, some (.nilFunc), t122.desc⟩
noncomputable def tl123 : TyL := ⟨1, 8, some (.nilFunc), t123.desc⟩
noncomputable def tl124 : TyL := ⟨1, 8, some (.nilFunc), t124.desc⟩
noncomputable def tl125 : TyL := ⟨1, 8, some (.nilFunc), t125.desc⟩
noncomputable def tl126 : TyL := ⟨1, 8, some (.nilFunc), t126.desc⟩
noncomputable def tl127 : TyL := ⟨1, 8, some (.nilFunc), t127.desc⟩
noncomputable def tl128 : TyL := ⟨1, 8, some (.nilFunc), t128.desc⟩
noncomputable def tl129 : TyL := ⟨1, 8, some (.nilFunc), t129.desc⟩
noncomputable def tl130 : TyL := ⟨1, 8, some (.nilFunc), t130.desc⟩
noncomputable def tl131 : TyL := ⟨8, 128, some (.agg [.int .i64 0, .str ⟨#[]⟩, .slice [] .exact (some true), .str ⟨#[]⟩, .slice [] .exact (some true), .slice [] .exact (some true), .int .i64 0, .int .i64 0]), t131.desc⟩
noncomputable def tl132 : TyL := ⟨8, 128, some (.agg [.int .i64 0, .str ⟨#[]⟩, .slice [] .exact (some true), .str ⟨#[]⟩, .slice [] .exact (some true), .slice [] .exact (some true), .int .i64 0, .int .i64 0]), t131.desc⟩
noncomputable def tl133 : TyL := ⟨1, 8, some (.nilFunc), t133.desc⟩
noncomputable def tl134 : TyL := ⟨14, 112, some (.agg [.nilFunc, .nilFunc, .nilFunc, .nilFunc, .nilFunc, .nilFunc, .nilFunc, .nilFunc, .nilFunc, .nilFunc, .nilFunc, .nilFunc, .nilFunc, .nilFunc]), t134.desc⟩
noncomputable def tl135 : TyL := ⟨1, 8, some (.nilFunc), t135.desc⟩
noncomputable def tl136 : TyL := ⟨1, 8, some (.nilFunc), t136.desc⟩
noncomputable def tl137 : TyL := ⟨1, 8, some (.nilFunc), t137.desc⟩
noncomputable def tl138 : TyL := ⟨1, 8, some (.nilFunc), t138.desc⟩
noncomputable def tl139 : TyL := ⟨1, 8, some (.nilFunc), t139.desc⟩
noncomputable def tl140 : TyL := ⟨1, 8, some (.nilFunc), t140.desc⟩
noncomputable def tl141 : TyL := ⟨1, 8, some (.nilFunc), t141.desc⟩
noncomputable def tl142 : TyL := ⟨1, 0, none, t142.desc⟩
noncomputable def tl143 : TyL := ⟨1, 8, some (.nilFunc), t143.desc⟩
noncomputable def tl144 : TyL := ⟨1, 0, none, t144.desc⟩
noncomputable def tl145 : TyL := ⟨1, 8, some (.nilFunc), t145.desc⟩
noncomputable def tl146 : TyL := ⟨1, 8, some (.nilFunc), t146.desc⟩
noncomputable def tl147 : TyL := ⟨1, 8, some (.nilFunc), t147.desc⟩
noncomputable def tl148 : TyL := ⟨1, 8, some (.nilFunc), t148.desc⟩
noncomputable def tl149 : TyL := ⟨1, 8, some (.nilFunc), t149.desc⟩
noncomputable def tl150 : TyL := ⟨1, 8, some (.nilFunc), t150.desc⟩
noncomputable def tl151 : TyL := ⟨1, 8, some (.nilFunc), t151.desc⟩
noncomputable def tl152 : TyL := ⟨1, 8, some (.nilFunc), t152.desc⟩
noncomputable def tl153 : TyL := ⟨7, 168, some (.agg [.slice [] .exact (some true), .slice [] .exact (some true), .slice [] .exact (some true), .slice [] .exact (some true), .slice [] .exact (some true), .slice [] .exact (some true), .slice [] .exact (some true)]), t153.desc⟩
noncomputable def tl154 : TyL := ⟨7, 168, some (.agg [.slice [] .exact (some true), .slice [] .exact (some true), .slice [] .exact (some true), .slice [] .exact (some true), .slice [] .exact (some true), .slice [] .exact (some true), .slice [] .exact (some true)]), t153.desc⟩
noncomputable def tl155 : TyL := ⟨1, 8, some (.nilFunc), t155.desc⟩
noncomputable def tl156 : TyL := ⟨1, 8, some (.nilFunc), t156.desc⟩
noncomputable def tl157 : TyL := ⟨1, 8, some (.nilFunc), t157.desc⟩
noncomputable def tl158 : TyL := ⟨1, 8, some (.nilFunc), t158.desc⟩
noncomputable def tl159 : TyL := ⟨1, 0, none, t159.desc⟩
noncomputable def tl160 : TyL := ⟨1, 8, some (.nilFunc), t160.desc⟩
noncomputable def tl161 : TyL := ⟨1, 8, some (.nilFunc), t161.desc⟩
noncomputable def tl162 : TyL := ⟨1, 8, some (.nilFunc), t162.desc⟩
noncomputable def tl163 : TyL := ⟨1, 8, some (.nilFunc), t163.desc⟩
noncomputable def tl164 : TyL := ⟨1, 8, some (.nilFunc), t164.desc⟩
noncomputable def tl165 : TyL := ⟨1, 24, some (.slice [] .exact (some true)), t165.desc⟩
noncomputable def tl166 : TyL := ⟨1, 8, some (.nilFunc), t166.desc⟩
noncomputable def tl167 : TyL := ⟨1, 8, some (.nilFunc), t167.desc⟩
noncomputable def tl168 : TyL := ⟨1, 0, none, t168.desc⟩
noncomputable def tl169 : TyL := ⟨1, 8, some (.nilFunc), t169.desc⟩
noncomputable def tl170 : TyL := ⟨1, 8, some (.nilFunc), t170.desc⟩
noncomputable def tl171 : TyL := ⟨1, 8, some (.nilFunc), t171.desc⟩
noncomputable def tl172 : TyL := ⟨1, 8, some (.nilFunc), t172.desc⟩
noncomputable def tl173 : TyL := ⟨13, 104, some (.agg [.int .i64 0, .int .i64 0, .int .i64 0, .int .i64 0, .int .i64 0, .int .i64 0, .int .i64 0, .int .i64 0, .int .i64 0, .int .i64 0, .int .i64 0, .int .i64 0, .int .i64 0]), t173.desc⟩
noncomputable def tl174 : TyL := ⟨1, 8, some (.nilFunc), t174.desc⟩
noncomputable def tl175 : TyL := ⟨4, 40, some (.agg [.nilp, .nilp, .nilp, .str ⟨#[]⟩]), t175.desc⟩
noncomputable def tl176 : TyL := ⟨4, 40, some (.agg [.nilp, .nilp, .nilp, .str ⟨#[]⟩]), t175.desc⟩
noncomputable def tl177 : TyL := ⟨0, 0, some (.agg []), t177.desc⟩
noncomputable def tl178 : TyL := ⟨0, 0, some (.agg []), t178.desc⟩
noncomputable def tl179 : TyL := ⟨0, 0, some (.agg []), t178.desc⟩
noncomputable def tl180 : TyL := ⟨1, 8, some (.nilFunc), t180.desc⟩
noncomputable def tl181 : TyL := ⟨1, 4, some (.int .u32 0), t181.desc⟩
noncomputable def tl182 : TyL := ⟨1, 1, some (.int .u8 0), t5.desc⟩
noncomputable def tl183 : TyL := ⟨1, 1, some (.int .u8 0), t5.desc⟩
noncomputable def tl184 : TyL := ⟨1, 8, some (.nilFunc), t184.desc⟩
noncomputable def tl185 : TyL := ⟨1, 8, some (.nilp), t185.desc⟩
noncomputable def tl186 : TyL := ⟨1, 4, some (.int .i32 0), t21.desc⟩
noncomputable def tl187 : TyL := ⟨1, 4, some (.int .i32 0), t21.desc⟩
noncomputable def tl188 : TyL := ⟨11, 48, some (.agg [.int .u64 0, .int .u64 0, .int .u32 0, .int .u8 0, .int .u8 0, .int .u8 0, .int .u8 0, .nilFunc, .nilp, .int .i32 0, .int .i32 0]), t188.desc⟩
noncomputable def tl189 : TyL := ⟨11, 48, some (.agg [.int .u64 0, .int .u64 0, .int .u32 0, .int .u8 0, .int .u8 0, .int .u8 0, .int .u8 0, .nilFunc, .nilp, .int .i32 0, .int .i32 0]), t188.desc⟩
noncomputable def tl190 : TyL := ⟨1, 24, some (.slice [] .exact (some true)), t190.desc⟩
noncomputable def tl191 : TyL := ⟨8, 152, some (.agg [.str ⟨#[]⟩, .slice [] .exact (some true), .int .i64 0, .str ⟨#[]⟩, .slice [] .exact (some true), .str ⟨#[]⟩, .slice [] .exact (some true), .slice [] .exact (some true)]), t191.desc⟩
noncomputable def tl192 : TyL := ⟨8, 152, some (.agg [.str ⟨#[]⟩, .slice [] .exact (some true), .int .i64 0, .str ⟨#[]⟩, .slice [] .exact (some true), .str ⟨#[]⟩, .slice [] .exact (some true), .slice [] .exact (some true)]), t191.desc⟩
noncomputable def tl193 : TyL := ⟨1, 8, some (.nilp), t193.desc⟩
noncomputable def tl194 : TyL := ⟨3, 56, some (.agg [.str ⟨#[]⟩, .str ⟨#[]⟩, .slice [] .exact (some true)]), t76.desc⟩
noncomputable def fl3 : FnL := ⟨110, [Go.ResultVar.tmp 6], bodyOf f3⟩
noncomputable def fl4 : FnL := ⟨176, [Go.ResultVar.tmp 0], bodyOf f4⟩
noncomputable def fl5 : FnL := ⟨12, [Go.ResultVar.tmp 2], bodyOf f5⟩
noncomputable def fl6 : FnL := ⟨6, [Go.ResultVar.tmp 2], bodyOf f6⟩
noncomputable def fl7 : FnL := ⟨13, [Go.ResultVar.tmp 2], bodyOf f7⟩
noncomputable def fl8 : FnL := ⟨33, [Go.ResultVar.cell 6 30, Go.ResultVar.tmp 7], bodyOf f8⟩
noncomputable def fl9 : FnL := ⟨49, [Go.ResultVar.cell 6 30, Go.ResultVar.tmp 7], bodyOf f9⟩
noncomputable def fl10 : FnL := ⟨60, [Go.ResultVar.cell 0 47], bodyOf f10⟩
noncomputable def fl11 : FnL := ⟨8, [Go.ResultVar.cell 4 25], bodyOf f11⟩
noncomputable def fl12 : FnL := ⟨9, [Go.ResultVar.cell 4 55], bodyOf f12⟩
noncomputable def fl13 : FnL := ⟨18, [Go.ResultVar.tmp 8, Go.ResultVar.tmp 9], bodyOf f13⟩
noncomputable def fl14 : FnL := ⟨10, [Go.ResultVar.cell 0 30], bodyOf f14⟩
noncomputable def fl15 : FnL := ⟨35, [Go.ResultVar.tmp 8, Go.ResultVar.tmp 9], bodyOf f15⟩
noncomputable def fl16 : FnL := ⟨12, [Go.ResultVar.cell 6 55], bodyOf f16⟩
noncomputable def fl17 : FnL := ⟨23, [Go.ResultVar.tmp 8], bodyOf f17⟩
noncomputable def fl18 : FnL := ⟨13, [Go.ResultVar.tmp 2], bodyOf f18⟩
noncomputable def fl19 : FnL := ⟨109, [Go.ResultVar.cell 2 4], bodyOf f19⟩
noncomputable def fl20 : FnL := ⟨36, [Go.ResultVar.tmp 4], bodyOf f20⟩
noncomputable def fl21 : FnL := ⟨5, [Go.ResultVar.tmp 2], bodyOf f21⟩
noncomputable def fl22 : FnL := ⟨65, [Go.ResultVar.tmp 2], bodyOf f22⟩
noncomputable def fl23 : FnL := ⟨162, [Go.ResultVar.cell 6 30], bodyOf f23⟩
noncomputable def fl24 : FnL := ⟨29, [Go.ResultVar.cell 2 25], bodyOf f24⟩
noncomputable def fl25 : FnL := ⟨12, [Go.ResultVar.tmp 4], bodyOf f25⟩
noncomputable def fl26 : FnL := ⟨31, [Go.ResultVar.tmp 4], bodyOf f26⟩
noncomputable def fl27 : FnL := ⟨4, [Go.ResultVar.tmp 2], bodyOf f27⟩
noncomputable def fl28 : FnL := ⟨20, [Go.ResultVar.cell 3 25], bodyOf f28⟩
noncomputable def fl29 : FnL := ⟨11, [Go.ResultVar.tmp 2], bodyOf f29⟩
noncomputable def fl30 : FnL := ⟨14, [Go.ResultVar.tmp 2], bodyOf f30⟩
noncomputable def fl31 : FnL := ⟨6, [Go.ResultVar.tmp 4], bodyOf f31⟩
noncomputable def fl32 : FnL := ⟨6, [Go.ResultVar.cell 2 34], bodyOf f32⟩
noncomputable def fl33 : FnL := ⟨8, [], bodyOf f33⟩
noncomputable def fl34 : FnL := ⟨12, [Go.ResultVar.cell 3 25], bodyOf f34⟩
noncomputable def fl35 : FnL := ⟨7, [Go.ResultVar.cell 2 55], bodyOf f35⟩
noncomputable def fl36 : FnL := ⟨21, [Go.ResultVar.tmp 4, Go.ResultVar.tmp 5], bodyOf f36⟩
noncomputable def fl37 : FnL := ⟨84, [Go.ResultVar.cell 6 89, Go.ResultVar.cell 7 22, Go.ResultVar.cell 8 34], bodyOf f37⟩
noncomputable def fl38 : FnL := ⟨17, [Go.ResultVar.cell 2 4], bodyOf f38⟩
noncomputable def fl39 : FnL := ⟨55, [Go.ResultVar.tmp 2], bodyOf f39⟩
noncomputable def fl40 : FnL := ⟨4, [Go.ResultVar.tmp 2], bodyOf f40⟩
noncomputable def fl41 : FnL := ⟨4, [Go.ResultVar.tmp 2], bodyOf f41⟩
noncomputable def fl42 : FnL := ⟨39, [Go.ResultVar.tmp 8], bodyOf f42⟩
noncomputable def fl43 : FnL := ⟨26, [Go.ResultVar.tmp 4], bodyOf f43⟩
noncomputable def fl44 : FnL := ⟨9, [Go.ResultVar.tmp 4], bodyOf f44⟩
noncomputable def fl45 : FnL := ⟨21, [Go.ResultVar.tmp 4], bodyOf f45⟩
noncomputable def fl46 : FnL := ⟨66, [Go.ResultVar.tmp 2], bodyOf f46⟩
noncomputable def fl47 : FnL := ⟨28, [Go.ResultVar.cell 4 25], bodyOf f47⟩
noncomputable def fl48 : FnL := ⟨49, [Go.ResultVar.cell 8 25], bodyOf f48⟩
noncomputable def fl49 : FnL := ⟨14, [Go.ResultVar.cell 2 25], bodyOf f49⟩
noncomputable def fl50 : FnL := ⟨11, [Go.ResultVar.cell 6 25], bodyOf f50⟩
noncomputable def fl51 : FnL := ⟨12, [], bodyOf f51⟩
noncomputable def fl52 : FnL := ⟨16, [Go.ResultVar.tmp 2], bodyOf f52⟩
noncomputable def fl53 : FnL := ⟨23, [], bodyOf f53⟩
noncomputable def fl54 : FnL := ⟨8, [Go.ResultVar.tmp 2], bodyOf f54⟩
noncomputable def fl55 : FnL := ⟨33, [Go.ResultVar.cell 6 116], bodyOf f55⟩
noncomputable def fl56 : FnL := ⟨12, [Go.ResultVar.cell 2 89], bodyOf f56⟩
noncomputable def fl57 : FnL := ⟨25, [Go.ResultVar.cell 4 89], bodyOf f57⟩
noncomputable def fl58 : FnL := ⟨10, [], bodyOf f58⟩
noncomputable def fl59 : FnL := ⟨19, [Go.ResultVar.cell 4 89], bodyOf f59⟩
noncomputable def fl60 : FnL := ⟨46, [], bodyOf f60⟩
noncomputable def fl61 : FnL := ⟨64, [], bodyOf f61⟩
noncomputable def fl62 : FnL := ⟨17, [Go.ResultVar.tmp 2], bodyOf f62⟩
noncomputable def fl63 : FnL := ⟨19, [Go.ResultVar.tmp 4], bodyOf f63⟩
noncomputable def fl64 : FnL := ⟨64, [Go.ResultVar.tmp 2], bodyOf f64⟩
noncomputable def fl65 : FnL := ⟨11, [Go.ResultVar.tmp 2], bodyOf f65⟩
noncomputable def fl66 : FnL := ⟨52, [Go.ResultVar.cell 8 25], bodyOf f66⟩
noncomputable def fl67 : FnL := ⟨29, [Go.ResultVar.cell 6 25], bodyOf f67⟩
noncomputable def fl68 : FnL := ⟨67, [Go.ResultVar.cell 6 25], bodyOf f68⟩
noncomputable def fl69 : FnL := ⟨56, [Go.ResultVar.cell 6 25], bodyOf f69⟩
noncomputable def fl70 : FnL := ⟨14, [Go.ResultVar.tmp 4], bodyOf f70⟩
noncomputable def fl71 : FnL := ⟨152, [Go.ResultVar.cell 2 89], bodyOf f71⟩
noncomputable def fl72 : FnL := ⟨10, [Go.ResultVar.cell 2 89], bodyOf f72⟩
noncomputable def fl73 : FnL := ⟨48, [Go.ResultVar.cell 2 89], bodyOf f73⟩
noncomputable def fl74 : FnL := ⟨45, [Go.ResultVar.cell 2 89], bodyOf f74⟩
noncomputable def fl75 : FnL := ⟨50, [Go.ResultVar.cell 2 89], bodyOf f75⟩
noncomputable def fl76 : FnL := ⟨25, [Go.ResultVar.cell 2 89], bodyOf f76⟩
noncomputable def fl77 : FnL := ⟨53, [Go.ResultVar.cell 2 89], bodyOf f77⟩
noncomputable def fl78 : FnL := ⟨28, [Go.ResultVar.cell 2 89], bodyOf f78⟩
noncomputable def fl79 : FnL := ⟨26, [Go.ResultVar.cell 2 89], bodyOf f79⟩
noncomputable def fl80 : FnL := ⟨23, [Go.ResultVar.cell 2 89], bodyOf f80⟩
noncomputable def fl81 : FnL := ⟨87, [Go.ResultVar.cell 2 89], bodyOf f81⟩
noncomputable def fl82 : FnL := ⟨15, [Go.ResultVar.cell 4 89], bodyOf f82⟩
noncomputable def fl83 : FnL := ⟨9, [Go.ResultVar.tmp 2], bodyOf f83⟩
noncomputable def fl84 : FnL := ⟨41, [Go.ResultVar.tmp 2], bodyOf f84⟩
noncomputable def fl85 : FnL := ⟨21, [Go.ResultVar.tmp 2], bodyOf f85⟩
noncomputable def fl86 : FnL := ⟨14, [Go.ResultVar.cell 8 25], bodyOf f86⟩
noncomputable def fl87 : FnL := ⟨23, [Go.ResultVar.cell 6 55], bodyOf f87⟩
noncomputable def fl88 : FnL := ⟨28, [Go.ResultVar.cell 8 89], bodyOf f88⟩
noncomputable def fl89 : FnL := ⟨19, [Go.ResultVar.cell 4 89], bodyOf f89⟩
noncomputable def fl90 : FnL := ⟨27, [Go.ResultVar.tmp 4], bodyOf f90⟩
noncomputable def fl91 : FnL := ⟨19, [Go.ResultVar.cell 4 89], bodyOf f91⟩
noncomputable def fl92 : FnL := ⟨35, [Go.ResultVar.cell 4 116, Go.ResultVar.cell 5 55], bodyOf f92⟩
noncomputable def fl93 : FnL := ⟨173, [Go.ResultVar.cell 6 116, Go.ResultVar.cell 7 89], bodyOf f93⟩
noncomputable def fl94 : FnL := ⟨9, [Go.ResultVar.tmp 2], bodyOf f94⟩
noncomputable def fl95 : FnL := ⟨39, [Go.ResultVar.cell 6 25], bodyOf f95⟩
noncomputable def fl96 : FnL := ⟨37, [Go.ResultVar.tmp 8], bodyOf f96⟩
noncomputable def fl97 : FnL := ⟨5, [], bodyOf f97⟩
noncomputable def fl98 : FnL := ⟨12, [Go.ResultVar.cell 4 55], bodyOf f98⟩
noncomputable def fl99 : FnL := ⟨27, [Go.ResultVar.tmp 4], bodyOf f99⟩
noncomputable def fl100 : FnL := ⟨11, [], bodyOf f100⟩
noncomputable def fl101 : FnL := ⟨21, [Go.ResultVar.cell 4 25], bodyOf f101⟩
noncomputable def fl102 : FnL := ⟨14, [Go.ResultVar.tmp 2], bodyOf f102⟩
noncomputable def fl103 : FnL := ⟨102, [Go.ResultVar.tmp 4], bodyOf f103⟩
noncomputable def fl104 : FnL := ⟨47, [Go.ResultVar.cell 4 116], bodyOf f104⟩
noncomputable def fl105 : FnL := ⟨13, [Go.ResultVar.tmp 4], bodyOf f105⟩
noncomputable def fl106 : FnL := ⟨88, [Go.ResultVar.tmp 6], bodyOf f106⟩
noncomputable def fl107 : FnL := ⟨15, [Go.ResultVar.cell 2 55], bodyOf f107⟩
noncomputable def fl108 : FnL := ⟨74, [Go.ResultVar.cell 6 55], bodyOf f108⟩
noncomputable def fl109 : FnL := ⟨7, [Go.ResultVar.cell 3 25], bodyOf f109⟩
noncomputable def fl110 : FnL := ⟨21, [Go.ResultVar.cell 4 25], bodyOf f110⟩
noncomputable def fl111 : FnL := ⟨31, [Go.ResultVar.tmp 4], bodyOf f111⟩
noncomputable def fl112 : FnL := ⟨67, [Go.ResultVar.cell 6 25], bodyOf f112⟩
noncomputable def fl113 : FnL := ⟨23, [Go.ResultVar.tmp 2, Go.ResultVar.tmp 3], bodyOf f113⟩
noncomputable def fl114 : FnL := ⟨14, [Go.ResultVar.tmp 2], bodyOf f114⟩
noncomputable def fl115 : FnL := ⟨46, [Go.ResultVar.tmp 4], bodyOf f115⟩
noncomputable def fl116 : FnL := ⟨35, [Go.ResultVar.tmp 4], bodyOf f116⟩
noncomputable def fl117 : FnL := ⟨107, [Go.ResultVar.tmp 2], bodyOf f117⟩
noncomputable def fl118 : FnL := ⟨25, [Go.ResultVar.tmp 4], bodyOf f118⟩
noncomputable def fl119 : FnL := ⟨32, [Go.ResultVar.tmp 4], bodyOf f119⟩
noncomputable def fl120 : FnL := ⟨49, [Go.ResultVar.tmp 4], bodyOf f120⟩
noncomputable def fl121 : FnL := ⟨38, [Go.ResultVar.tmp 4], bodyOf f121⟩
noncomputable def fl122 : FnL := ⟨17, [Go.ResultVar.tmp 3], bodyOf f122⟩
noncomputable def fl123 : FnL := ⟨67, [Go.ResultVar.cell 4 52, Go.ResultVar.tmp 5], bodyOf f123⟩
noncomputable def fl124 : FnL := ⟨25, [Go.ResultVar.cell 2 52], bodyOf f124⟩
noncomputable def fl125 : FnL := ⟨11, [Go.ResultVar.tmp 2], bodyOf f125⟩
noncomputable def fl126 : FnL := ⟨35, [Go.ResultVar.tmp 6], bodyOf f126⟩
noncomputable def fl127 : FnL := ⟨21, [Go.ResultVar.tmp 4], bodyOf f127⟩
noncomputable def fl128 : FnL := ⟨3, [Go.ResultVar.tmp 2], bodyOf f128⟩
noncomputable def fl129 : FnL := ⟨22, [Go.ResultVar.tmp 2], bodyOf f129⟩
noncomputable def tyT : BT (Option TyL) := (.node (.node (.node (.node (.node (.node (.node (.node .nil (some tl127) .nil) (some tl63) (.node .nil (some tl191) .nil)) (some tl31) (.node (.node .nil (some tl159) .nil) (some tl95) .nil)) (some tl15) (.node (.node (.node .nil (some tl143) .nil) (some tl79) .nil) (some tl47) (.node (.node .nil (some tl175) .nil) (some tl111) .nil))) (some tl7) (.node (.node (.node (.node .nil (some tl135) .nil) (some tl71) .nil) (some tl39) (.node (.node .nil (some tl167) .nil) (some tl103) .nil)) (some tl23) (.node (.node (.node .nil (some tl151) .nil) (some tl87) .nil) (some tl55) (.node (.node .nil (some tl183) .nil) (some tl119) .nil)))) (some tl3) (.node (.node (.node (.node (.node .nil (some tl131) .nil) (some tl67) .nil) (some tl35) (.node (.node .nil (some tl163) .nil) (some tl99) .nil)) (some tl19) (.node (.node (.node .nil (some tl147) .nil) (some tl83) .nil) (some tl51) (.node (.node .nil (some tl179) .nil) (some tl115) .nil))) (some tl11) (.node (.node (.node (.node .nil (some tl139) .nil) (some tl75) .nil) (some tl43) (.node (.node .nil (some tl171) .nil) (some tl107) .nil)) (some tl27) (.node (.node (.node .nil (some tl155) .nil) (some tl91) .nil) (some tl59) (.node (.node .nil (some tl187) .nil) (some tl123) .nil))))) (some tl1) (.node (.node (.node (.node (.node (.node .nil (some tl129) .nil) (some tl65) (.node .nil (some tl193) .nil)) (some tl33) (.node (.node .nil (some tl161) .nil) (some tl97) .nil)) (some tl17) (.node (.node (.node .nil (some tl145) .nil) (some tl81) .nil) (some tl49) (.node (.node .nil (some tl177) .nil) (some tl113) .nil))) (some tl9) (.node (.node (.node (.node .nil (some tl137) .nil) (some tl73) .nil) (some tl41) (.node (.node .nil (some tl169) .nil) (some tl105) .nil)) (some tl25) (.node (.node (.node .nil (some tl153) .nil) (some tl89) .nil) (some tl57) (.node (.node .nil (some tl185) .nil) (some tl121) .nil)))) (some tl5) (.node (.node (.node (.node (.node .nil (some tl133) .nil) (some tl69) .nil) (some tl37) (.node (.node .nil (some tl165) .nil) (some tl101) .nil)) (some tl21) (.node (.node (.node .nil (some tl149) .nil) (some tl85) .nil) (some tl53) (.node (.node .nil (some tl181) .nil) (some tl117) .nil))) (some tl13) (.node (.node (.node (.node .nil (some tl141) .nil) (some tl77) .nil) (some tl45) (.node (.node .nil (some tl173) .nil) (some tl109) .nil)) (some tl29) (.node (.node (.node .nil (some tl157) .nil) (some tl93) .nil) (some tl61) (.node (.node .nil (some tl189) .nil) (some tl125) .nil)))))) (some tl0) (.node (.node (.node (.node (.node (.node (.node .nil (some tl128) .nil) (some tl64) (.node .nil (some tl192) .nil)) (some tl32) (.node (.node .nil (some tl160) .nil) (some tl96) .nil)) (some tl16) (.node (.node (.node .nil (some tl144) .nil) (some tl80) .nil) (some tl48) (.node (.node .nil (some tl176) .nil) (some tl112) .nil))) (some tl8) (.node (.node (.node (.node .nil (some tl136) .nil) (some tl72) .nil) (some tl40) (.node (.node .nil (some tl168) .nil) (some tl104) .nil)) (some tl24) (.node (.node (.node .nil (some tl152) .nil) (some tl88) .nil) (some tl56) (.node (.node .nil (some tl184) .nil) (some tl120) .nil)))) (some tl4) (.node (.node (.node (.node (.node .nil (some tl132) .nil) (some tl68) .nil) (some tl36) (.node (.node .nil (some tl164) .nil) (some tl100) .nil)) (some tl20) (.node (.node (.node .nil (some tl148) .nil) (some tl84) .nil) (some tl52) (.node (.node .nil (some tl180) .nil) (some tl116) .nil))) (some tl12) (.node (.node (.node (.node .nil (some tl140) .nil) (some tl76) .nil) (some tl44) (.node (.node .nil (some tl172) .nil) (some tl108) .nil)) (some tl28) (.node (.node (.node .nil (some tl156) .nil) (some tl92) .nil) (some tl60) (.node (.node .nil (some tl188) .nil) (some tl124) .nil))))) (some tl2) (.node (.node (.node (.node (.node (.node .nil (some tl130) .nil) (some tl66) (.node .nil (some tl194) .nil)) (some tl34) (.node (.node .nil (some tl162) .nil) (some tl98) .nil)) (some tl18) (.node (.node (.node .nil (some tl146) .nil) (some tl82) .nil) (some tl50) (.node (.node .nil (some tl178) .nil) (some tl114) .nil))) (some tl10) (.node (.node (.node (.node .nil (some tl138) .nil) (some tl74) .nil) (some tl42) (.node (.node .nil (some tl170) .nil) (some tl106) .nil)) (some tl26) (.node (.node (.node .nil (some tl154) .nil) (some tl90) .nil) (some tl58) (.node (.node .nil (some tl186) .nil) (some tl122) .nil)))) (some tl6) (.node (.node (.node (.node (.node .nil (some tl134) .nil) (some tl70) .nil) (some tl38) (.node (.node .nil (some tl166) .nil) (some tl102) .nil)) (some tl22) (.node (.node (.node .nil (some tl150) .nil) (some tl86) .nil) (some tl54) (.node (.node .nil (some tl182) .nil) (some tl118) .nil))) (some tl14) (.node (.node (.node (.node .nil (some tl142) .nil) (some tl78) .nil) (some tl46) (.node (.node .nil (some tl174) .nil) (some tl110) .nil)) (some tl30) (.node (.node (.node .nil (some tl158) .nil) (some tl94) .nil) (some tl62) (.node (.node .nil (some tl190) .nil) (some tl126) .nil)))))))
noncomputable def fnT : BT (Option FnL) := (.node (.node (.node (.node (.node (.node (.node (.node .nil (some fl127) .nil) (some fl63) .nil) (some fl31) (.node .nil (some fl95) .nil)) (some fl15) (.node (.node .nil (some fl79) .nil) (some fl47) (.node .nil (some fl111) .nil))) (some fl7) (.node (.node (.node .nil (some fl71) .nil) (some fl39) (.node .nil (some fl103) .nil)) (some fl23) (.node (.node .nil (some fl87) .nil) (some fl55) (.node .nil (some fl119) .nil)))) (some fl3) (.node (.node (.node (.node .nil (some fl67) .nil) (some fl35) (.node .nil (some fl99) .nil)) (some fl19) (.node (.node .nil (some fl83) .nil) (some fl51) (.node .nil (some fl115) .nil))) (some fl11) (.node (.node (.node .nil (some fl75) .nil) (some fl43) (.node .nil (some fl107) .nil)) (some fl27) (.node (.node .nil (some fl91) .nil) (some fl59) (.node .nil (some fl123) .nil))))) none (.node (.node (.node (.node (.node (.node .nil (some fl129) .nil) (some fl65) .nil) (some fl33) (.node .nil (some fl97) .nil)) (some fl17) (.node (.node .nil (some fl81) .nil) (some fl49) (.node .nil (some fl113) .nil))) (some fl9) (.node (.node (.node .nil (some fl73) .nil) (some fl41) (.node .nil (some fl105) .nil)) (some fl25) (.node (.node .nil (some fl89) .nil) (some fl57) (.node .nil (some fl121) .nil)))) (some fl5) (.node (.node (.node (.node .nil (some fl69) .nil) (some fl37) (.node .nil (some fl101) .nil)) (some fl21) (.node (.node .nil (some fl85) .nil) (some fl53) (.node .nil (some fl117) .nil))) (some fl13) (.node (.node (.node .nil (some fl77) .nil) (some fl45) (.node .nil (some fl109) .nil)) (some fl29) (.node (.node .nil (some fl93) .nil) (some fl61) (.node .nil (some fl125) .nil)))))) none (.node (.node (.node (.node (.node (.node (.node .nil (some fl128) .nil) (some fl64) .nil) (some fl32) (.node .nil (some fl96) .nil)) (some fl16) (.node (.node .nil (some fl80) .nil) (some fl48) (.node .nil (some fl112) .nil))) (some fl8) (.node (.node (.node .nil (some fl72) .nil) (some fl40) (.node .nil (some fl104) .nil)) (some fl24) (.node (.node .nil (some fl88) .nil) (some fl56) (.node .nil (some fl120) .nil)))) (some fl4) (.node (.node (.node (.node .nil (some fl68) .nil) (some fl36) (.node .nil (some fl100) .nil)) (some fl20) (.node (.node .nil (some fl84) .nil) (some fl52) (.node .nil (some fl116) .nil))) (some fl12) (.node (.node (.node .nil (some fl76) .nil) (some fl44) (.node .nil (some fl108) .nil)) (some fl28) (.node (.node .nil (some fl92) .nil) (some fl60) (.node .nil (some fl124) .nil))))) none (.node (.node (.node (.node (.node .nil (some fl66) .nil) (some fl34) (.node .nil (some fl98) .nil)) (some fl18) (.node (.node .nil (some fl82) .nil) (some fl50) (.node .nil (some fl114) .nil))) (some fl10) (.node (.node (.node .nil (some fl74) .nil) (some fl42) (.node .nil (some fl106) .nil)) (some fl26) (.node (.node .nil (some fl90) .nil) (some fl58) (.node .nil (some fl122) .nil)))) (some fl6) (.node (.node (.node (.node .nil (some fl70) .nil) (some fl38) (.node .nil (some fl102) .nil)) (some fl22) (.node (.node .nil (some fl86) .nil) (some fl54) (.node .nil (some fl118) .nil))) (some fl14) (.node (.node (.node .nil (some fl78) .nil) (some fl46) (.node .nil (some fl110) .nil)) (some fl30) (.node (.node .nil (some fl94) .nil) (some fl62) (.node .nil (some fl126) .nil)))))))
noncomputable def look : Look := ⟨prog, tyT, fnT, fun _ _ => false, fun _ => false⟩
end Go.Lg
end
section
set_option maxRecDepth 100000
namespace Go.Lg
open Go.Proofs.Tryz
theorem TyOK.of {P : Program} {t : TypeId} {y : TyL} {i : TypeInfo} (hu : P.underlying t = some y.desc) (hi : P.info? t = some i) (hs : i.size = y.size) (hb : i.bytes = y.bytes) (hz : y.zero = none ∨ ∃ v, i.zero = some v ∧ ofV v = y.zero) : TyOK P t y :=
  ⟨hu, i, hi, hs, hb, fun z h => by
    rcases hz with hz | ⟨v, h1, h2⟩
    · rw [hz] at h; cases h
    · exact ⟨v, h1, h2.trans h⟩⟩
def AllB {α : Type} (P : Nat → α → Prop) : BT (Option α) → (Nat → Nat) → Prop
  | .nil, _ => True
  | .node l v r, f => (∀ y, v = some y → P (f 0) y) ∧ AllB P l (fun k => f (2 * k + 1)) ∧ AllB P r (fun k => f (2 * k + 2))
theorem AllB.get {α : Type} {P : Nat → α → Prop} : ∀ (t : BT (Option α)) (f : Nat → Nat), AllB P t f → ∀ k y, t.get k = some (some y) → P (f k) y
  | .nil, f, _, k, y, h => by cases h
  | .node l v r, f, ⟨h1, h2, h3⟩, k, y, h => by
    have e : (BT.node l v r).get k = Bool.rec (Bool.rec (r.get (Nat.sub (Nat.div k 2) 1)) (l.get (Nat.div k 2)) (Nat.beq (Nat.mod k 2) 1)) (some v) (Nat.beq k 0) := rfl
    rw [e] at h
    cases hk : Nat.beq k 0 with
    | true =>
      rw [hk] at h
      have := Nat.eq_of_beq_eq_true hk
      subst this
      exact h1 y (by injection h)
    | false =>
      rw [hk] at h
      have hk0 : k ≠ 0 := fun e => by subst e; cases hk
      cases hm : Nat.beq (Nat.mod k 2) 1 with
      | true =>
        rw [hm] at h
        have hm := Nat.eq_of_beq_eq_true hm
        have := AllB.get l _ h2 (k / 2) y h
        have e : 2 * (k / 2) + 1 = k := by have : k % 2 = 1 := hm; omega
        rw [← e]; exact this
      | false =>
        rw [hm] at h
        have hm : k % 2 ≠ 1 := fun e => by rw [show Nat.mod k 2 = 1 from e] at hm; cases hm
        have := AllB.get r _ h3 (k / 2 - 1) y h
        have e : 2 * (k / 2 - 1) + 2 = k := by omega
        rw [← e]; exact this
theorem ty0 : TyOK prog 0 tl0 := .of underlying0 (i := t0) (by kernel_rfl) rfl rfl (.inl rfl)
theorem ty1 : TyOK prog 1 tl1 := .of underlying1 (i := t1) (by kernel_rfl) rfl rfl (.inr ⟨_, rfl, by kernel_rfl⟩)
theorem ty2 : TyOK prog 2 tl2 := .of underlying2 (i := t2) (by kernel_rfl) rfl rfl (.inr ⟨_, rfl, by kernel_rfl⟩)
theorem ty3 : TyOK prog 3 tl3 := .of underlying3 (i := t3) (by kernel_rfl) rfl rfl (.inr ⟨_, rfl, by kernel_rfl⟩)
theorem ty4 : TyOK prog 4 tl4 := .of underlying4 (i := t4) (by kernel_rfl) rfl rfl (.inr ⟨_, rfl, by kernel_rfl⟩)
theorem ty5 : TyOK prog 5 tl5 := .of underlying5 (i := t5) (by kernel_rfl) rfl rfl (.inr ⟨_, rfl, by kernel_rfl⟩)
theorem ty6 : TyOK prog 6 tl6 := .of underlying6 (i := t6) (by kernel_rfl) rfl rfl (.inr ⟨_, rfl, by kernel_rfl⟩)
theorem ty7 : TyOK prog 7 tl7 := .of underlying7 (i := t7) (by kernel_rfl) rfl rfl (.inr ⟨_, rfl, by kernel_rfl⟩)
theorem ty8 : TyOK prog 8 tl8 := .of underlying8 (i := t8) (by kernel_rfl) rfl rfl (.inr ⟨_, rfl, by kernel_rfl⟩)
theorem ty9 : TyOK prog 9 tl9 := .of underlying9 (i := t9) (by kernel_rfl) rfl rfl (.inr ⟨_, rfl, by kernel_rfl⟩)
theorem ty10 : TyOK prog 10 tl10 := .of underlying10 (i := t10) (by kernel_rfl) rfl rfl (.inr ⟨_, rfl, by kernel_rfl⟩)
theorem ty11 : TyOK prog 11 tl11 := .of underlying11 (i := t11) (by kernel_rfl) rfl rfl (.inr ⟨_, rfl, by kernel_rfl⟩)
theorem ty12 : TyOK prog 12 tl12 := .of underlying12 (i := t12) (by kernel_rfl) rfl rfl (.inr ⟨_, rfl, by kernel_rfl⟩)
theorem ty13 : TyOK prog 13 tl13 := .of underlying13 (i := t13) (by kernel_rfl) rfl rfl (.inr ⟨_, rfl, by kernel_rfl⟩)
theorem ty14 : TyOK prog 14 tl14 := .of underlying14 (i := t14) (by kernel_rfl) rfl rfl (.inr ⟨_, rfl, by kernel_rfl⟩)
theorem ty15 : TyOK prog 15 tl15 := .of underlying15 (i := t15) (by kernel_rfl) rfl rfl (.inr ⟨_, rfl, by kernel_rfl⟩)
theorem ty16 : TyOK prog 16 tl16 := .of underlying16 (i := t16) (by kernel_rfl) rfl rfl (.inr ⟨_, rfl, by kernel_rfl⟩)
theorem ty17 : TyOK prog 17 tl17 := .of underlying17 (i := t17) (by kernel_rfl) rfl rfl (.inr ⟨_, rfl, by kernel_rfl⟩)
theorem ty18 : TyOK prog 18 tl18 := .of underlying18 (i := t18) (by kernel_rfl) rfl rfl (.inr ⟨_, rfl, by kernel_rfl⟩)
theorem ty19 : TyOK prog 19 tl19 := .of underlying19 (i := t19) (by kernel_rfl) rfl rfl (.inr ⟨_, rfl, by kernel_rfl⟩)
theorem ty20 : TyOK prog 20 tl20 := .of underlying20 (i := t20) (by kernel_rfl) rfl rfl (.inr ⟨_, rfl, by kernel_rfl⟩)
theorem ty21 : TyOK prog 21 tl21 := .of underlying21 (i := t21) (by kernel_rfl) rfl rfl (.inr ⟨_, rfl, by kernel_rfl⟩)
theorem ty22 : TyOK prog 22 tl22 := .of underlying22 (i := t22) (by kernel_rfl) rfl rfl (.inr ⟨_, rfl, by kernel_rfl⟩)
theorem ty23 : TyOK prog 23 tl23 := .of underlying23 (i := t23) (by kernel_rfl) rfl rfl (.inr ⟨_, rfl, by kernel_rfl⟩)
theorem ty24 : TyOK prog 24 tl24 := .of underlying24 (i := t24) (by kernel_rfl) rfl rfl (.inr ⟨_, rfl, by kernel_rfl⟩)
theorem ty25 : TyOK prog 25 tl25 := .of underlying25 (i := t25) (by kernel_rfl) rfl rfl (.inr ⟨_, rfl, by kernel_rfl⟩)
theorem ty26 : TyOK prog 26 tl26 := .of underlying26 (i := t26) (by kernel_rfl) rfl rfl (.inr ⟨_, rfl, by kernel_rfl⟩)
theorem ty27 : TyOK prog 27 tl27 := .of underlying27 (i := t27) (by kernel_rfl) rfl rfl (.inr ⟨_, rfl, by kernel_rfl⟩)
theorem ty28 : TyOK prog 28 tl28 := .of underlying28 (i := t28) (by kernel_rfl) rfl rfl (.inr ⟨_, rfl, by kernel_rfl⟩)
theorem ty29 : TyOK prog 29 tl29 := .of underlying29 (i := t29) (by kernel_rfl) rfl rfl (.inr ⟨_, rfl, by kernel_rfl⟩)
theorem ty30 : TyOK prog 30 tl30 := .of underlying30 (i := t30) (by kernel_rfl) rfl rfl (.inr ⟨_, rfl, by kernel_rfl⟩)
theorem ty31 : TyOK prog 31 tl31 := .of underlying31 (i := t31) (by kernel_rfl) rfl rfl (.inr ⟨_, rfl, by kernel_rfl⟩)
theorem ty32 : TyOK prog 32 tl32 := .of underlying32 (i := t32) (by kernel_rfl) rfl rfl (.inr ⟨_, rfl, by kernel_rfl⟩)
theorem ty33 : TyOK prog 33 tl33 := .of underlying33 (i := t33) (by kernel_rfl) rfl rfl (.inr ⟨_, rfl, by kernel_rfl⟩)
theorem ty34 : TyOK prog 34 tl34 := .of underlying34 (i := t34) (by kernel_rfl) rfl rfl (.inr ⟨_, rfl, by kernel_rfl⟩)
theorem ty35 : TyOK prog 35 tl35 := .of underlying35 (i := t35) (by kernel_rfl) rfl rfl (.inr ⟨_, rfl, by kernel_rfl⟩)
theorem ty36 : TyOK prog 36 tl36 := .of underlying36 (i := t36) (by kernel_rfl) rfl rfl (.inr ⟨_, rfl, by kernel_rfl⟩)
theorem ty37 : TyOK prog 37 tl37 := .of underlying37 (i := t37) (by kernel_rfl) rfl rfl (.inl rfl)
theorem ty38 : TyOK prog 38 tl38 := .of underlying38 (i := t38) (by kernel_rfl) rfl rfl (.inr ⟨_, rfl, by kernel_rfl⟩)
theorem ty39 : TyOK prog 39 tl39 := .of underlying39 (i := t39) (by kernel_rfl) rfl rfl (.inr ⟨_, rfl, by kernel_rfl⟩)
theorem ty40 : TyOK prog 40 tl40 := .of underlying40 (i := t40) (by kernel_rfl) rfl rfl (.inr ⟨_, rfl, by kernel_rfl⟩)
theorem ty41 : TyOK prog 41 tl41 := .of underlying41 (i := t41) (by kernel_rfl) rfl rfl (.inr ⟨_, rfl, by kernel_rfl⟩)
theorem ty42 : TyOK prog 42 tl42 := .of underlying42 (i := t42) (by kernel_rfl) rfl rfl (.inr ⟨_, rfl, by kernel_rfl⟩)
theorem ty43 : TyOK prog 43 tl43 := .of underlying43 (i := t43) (by kernel_rfl) rfl rfl (.inr ⟨_, rfl, by kernel_rfl⟩)
theorem ty44 : TyOK prog 44 tl44 := .of underlying44 (i := t44) (by kernel_rfl) rfl rfl (.inr ⟨_, rfl, by kernel_rfl⟩)
theorem ty45 : TyOK prog 45 tl45 := .of underlying45 (i := t45) (by kernel_rfl) rfl rfl (.inr ⟨_, rfl, by kernel_rfl⟩)
theorem ty46 : TyOK prog 46 tl46 := .of underlying46 (i := t46) (by kernel_rfl) rfl rfl (.inr ⟨_, rfl, by kernel_rfl⟩)
theorem ty47 : TyOK prog 47 tl47 := .of underlying47 (i := t47) (by kernel_rfl) rfl rfl (.inr ⟨_, rfl, by kernel_rfl⟩)
theorem ty48 : TyOK prog 48 tl48 := .of underlying48 (i := t48) (by kernel_rfl) rfl rfl (.inr ⟨_, rfl, by kernel_rfl⟩)
theorem ty49 : TyOK prog 49 tl49 := .of underlying49 (i := t49) (by kernel_rfl) rfl rfl (.inr ⟨_, rfl, by kernel_rfl⟩)
theorem ty50 : TyOK prog 50 tl50 := .of underlying50 (i := t50) (by kernel_rfl) rfl rfl (.inr ⟨_, rfl, by kernel_rfl⟩)
theorem ty51 : TyOK prog 51 tl51 := .of underlying51 (i := t51) (by kernel_rfl) rfl rfl (.inr ⟨_, rfl, by kernel_rfl⟩)
theorem ty52 : TyOK prog 52 tl52 := .of underlying52 (i := t52) (by kernel_rfl) rfl rfl (.inr ⟨_, rfl, by kernel_rfl⟩)
theorem ty53 : TyOK prog 53 tl53 := .of underlying53 (i := t53) (by kernel_rfl) rfl rfl (.inr ⟨_, rfl, by kernel_rfl⟩)
theorem ty54 : TyOK prog 54 tl54 := .of underlying54 (i := t54) (by kernel_rfl) rfl rfl (.inr ⟨_, rfl, by kernel_rfl⟩)
theorem ty55 : TyOK prog 55 tl55 := .of underlying55 (i := t55) (by kernel_rfl) rfl rfl (.inr ⟨_, rfl, by kernel_rfl⟩)
theorem ty56 : TyOK prog 56 tl56 := .of underlying56 (i := t56) (by kernel_rfl) rfl rfl (.inr ⟨_, rfl, by kernel_rfl⟩)
theorem ty57 : TyOK prog 57 tl57 := .of underlying57 (i := t57) (by kernel_rfl) rfl rfl (.inl rfl)
theorem ty58 : TyOK prog 58 tl58 := .of underlying58 (i := t58) (by kernel_rfl) rfl rfl (.inr ⟨_, rfl, by kernel_rfl⟩)
theorem ty59 : TyOK prog 59 tl59 := .of underlying59 (i := t59) (by kernel_rfl) rfl rfl (.inr ⟨_, rfl, by kernel_rfl⟩)
theorem ty60 : TyOK prog 60 tl60 := .of underlying60 (i := t60) (by kernel_rfl) rfl rfl (.inr ⟨_, rfl, by kernel_rfl⟩)
theorem ty61 : TyOK prog 61 tl61 := .of underlying61 (i := t61) (by kernel_rfl) rfl rfl (.inr ⟨_, rfl, by kernel_rfl⟩)
theorem ty62 : TyOK prog 62 tl62 := .of underlying62 (i := t62) (by kernel_rfl) rfl rfl (.inr ⟨_, rfl, by kernel_rfl⟩)
theorem ty63 : TyOK prog 63 tl63 := .of underlying63 (i := t63) (by kernel_rfl) rfl rfl (.inr ⟨_, rfl, by kernel_rfl⟩)
theorem ty64 : TyOK prog 64 tl64 := .of underlying64 (i := t64) (by kernel_rfl) rfl rfl (.inr ⟨_, rfl, by kernel_rfl⟩)
theorem ty65 : TyOK prog 65 tl65 := .of underlying65 (i := t65) (by kernel_rfl) rfl rfl (.inr ⟨_, rfl, by kernel_rfl⟩)
theorem ty66 : TyOK prog 66 tl66 := .of underlying66 (i := t66) (by kernel_rfl) rfl rfl (.inr ⟨_, rfl, by kernel_rfl⟩)
theorem ty67 : TyOK prog 67 tl67 := .of underlying67 (i := t67) (by kernel_rfl) rfl rfl (.inr ⟨_, rfl, by kernel_rfl⟩)
theorem ty68 : TyOK prog 68 tl68 := .of underlying68 (i := t68) (by kernel_rfl) rfl rfl (.inr ⟨_, rfl, by kernel_rfl⟩)
theorem ty69 : TyOK prog 69 tl69 := .of underlying69 (i := t69) (by kernel_rfl) rfl rfl (.inr ⟨_, rfl, by kernel_rfl⟩)
theorem ty70 : TyOK prog 70 tl70 := .of underlying70 (i := t70) (by kernel_rfl) rfl rfl (.inr ⟨_, rfl, by kernel_rfl⟩)
theorem ty71 : TyOK prog 71 tl71 := .of underlying71 (i := t71) (by kernel_rfl) rfl rfl (.inr ⟨_, rfl, by kernel_rfl⟩)
theorem ty72 : TyOK prog 72 tl72 := .of underlying72 (i := t72) (by kernel_rfl) rfl rfl (.inr ⟨_, rfl, by kernel_rfl⟩)
theorem ty73 : TyOK prog 73 tl73 := .of underlying73 (i := t73) (by kernel_rfl) rfl rfl (.inr ⟨_, rfl, by kernel_rfl⟩)
theorem ty74 : TyOK prog 74 tl74 := .of underlying74 (i := t74) (by kernel_rfl) rfl rfl (.inr ⟨_, rfl, by kernel_rfl⟩)
theorem ty75 : TyOK prog 75 tl75 := .of underlying75 (i := t75) (by kernel_rfl) rfl rfl (.inr ⟨_, rfl, by kernel_rfl⟩)
theorem ty76 : TyOK prog 76 tl76 := .of underlying76 (i := t76) (by kernel_rfl) rfl rfl (.inr ⟨_, rfl, by kernel_rfl⟩)
theorem ty77 : TyOK prog 77 tl77 := .of underlying77 (i := t77) (by kernel_rfl) rfl rfl (.inr ⟨_, rfl, by kernel_rfl⟩)
theorem ty78 : TyOK prog 78 tl78 := .of underlying78 (i := t78) (by kernel_rfl) rfl rfl (.inr ⟨_, rfl, by kernel_rfl⟩)
theorem ty79 : TyOK prog 79 tl79 := .of underlying79 (i := t79) (by kernel_rfl) rfl rfl (.inr ⟨_, rfl, by kernel_rfl⟩)
theorem ty80 : TyOK prog 80 tl80 := .of underlying80 (i := t80) (by kernel_rfl) rfl rfl (.inr ⟨_, rfl, by kernel_rfl⟩)
theorem ty81 : TyOK prog 81 tl81 := .of underlying81 (i := t81) (by kernel_rfl) rfl rfl (.inr ⟨_, rfl, by kernel_rfl⟩)
theorem ty82 : TyOK prog 82 tl82 := .of underlying82 (i := t82) (by kernel_rfl) rfl rfl (.inr ⟨_, rfl, by kernel_rfl⟩)
theorem ty83 : TyOK prog 83 tl83 := .of underlying83 (i := t83) (by kernel_rfl) rfl rfl (.inr ⟨_, rfl, by kernel_rfl⟩)
theorem ty84 : TyOK prog 84 tl84 := .of underlying84 (i := t84) (by kernel_rfl) rfl rfl (.inr ⟨_, rfl, by kernel_rfl⟩)
theorem ty85 : TyOK prog 85 tl85 := .of underlying85 (i := t85) (by kernel_rfl) rfl rfl (.inr ⟨_, rfl, by kernel_rfl⟩)
theorem ty86 : TyOK prog 86 tl86 := .of underlying86 (i := t86) (by kernel_rfl) rfl rfl (.inr ⟨_, rfl, by kernel_rfl⟩)
theorem ty87 : TyOK prog 87 tl87 := .of underlying87 (i := t87) (by kernel_rfl) rfl rfl (.inr ⟨_, rfl, by kernel_rfl⟩)
theorem ty88 : TyOK prog 88 tl88 := .of underlying88 (i := t88) (by kernel_rfl) rfl rfl (.inr ⟨_, rfl, by kernel_rfl⟩)
theorem ty89 : TyOK prog 89 tl89 := .of underlying89 (i := t89) (by kernel_rfl) rfl rfl (.inr ⟨_, rfl, by kernel_rfl⟩)
theorem ty90 : TyOK prog 90 tl90 := .of underlying90 (i := t90) (by kernel_rfl) rfl rfl (.inl rfl)
theorem ty91 : TyOK prog 91 tl91 := .of underlying91 (i := t91) (by kernel_rfl) rfl rfl (.inr ⟨_, rfl, by kernel_rfl⟩)
theorem ty92 : TyOK prog 92 tl92 := .of underlying92 (i := t92) (by kernel_rfl) rfl rfl (.inr ⟨_, rfl, by kernel_rfl⟩)
theorem ty93 : TyOK prog 93 tl93 := .of underlying93 (i := t93) (by kernel_rfl) rfl rfl (.inr ⟨_, rfl, by kernel_rfl⟩)
theorem ty94 : TyOK prog 94 tl94 := .of underlying94 (i := t94) (by kernel_rfl) rfl rfl (.inr ⟨_, rfl, by kernel_rfl⟩)
theorem ty95 : TyOK prog 95 tl95 := .of underlying95 (i := t95) (by kernel_rfl) rfl rfl (.inr ⟨_, rfl, by kernel_rfl⟩)
theorem ty96 : TyOK prog 96 tl96 := .of underlying96 (i := t96) (by kernel_rfl) rfl rfl (.inr ⟨_, rfl, by kernel_rfl⟩)
theorem ty97 : TyOK prog 97 tl97 := .of underlying97 (i := t97) (by kernel_rfl) rfl rfl (.inr ⟨_, rfl, by kernel_rfl⟩)
theorem ty98 : TyOK prog 98 tl98 := .of underlying98 (i := t98) (by kernel_rfl) rfl rfl (.inr ⟨_, rfl, by kernel_rfl⟩)
theorem ty99 : TyOK prog 99 tl99 := .of underlying99 (i := t99) (by kernel_rfl) rfl rfl (.inr ⟨_, rfl, by kernel_rfl⟩)
theorem ty100 : TyOK prog 100 tl100 := .of underlying100 (i := t100) (by kernel_rfl) rfl rfl (.inr ⟨_, rfl, by kernel_rfl⟩)
theorem ty101 : TyOK prog 101 tl101 := .of underlying101 (i := t101) (by kernel_rfl) rfl rfl (.inr ⟨_, rfl, by kernel_rfl⟩)
theorem ty102 : TyOK prog 102 tl102 := .of underlying102 (i := t102) (by kernel_rfl) rfl rfl (.inr ⟨_, rfl, by kernel_rfl⟩)
theorem ty103 : TyOK prog 103 tl103 := .of underlying103 (i := t103) (by kernel_rfl) rfl rfl (.inr ⟨_, rfl, by kernel_rfl⟩)
theorem ty104 : TyOK prog 104 tl104 := .of underlying104 (i := t104) (by kernel_rfl) rfl rfl (.inr ⟨_, rfl, by kernel_rfl⟩)
theorem ty105 : TyOK prog 105 tl105 := .of underlying105 (i := t105) (by kernel_rfl) rfl rfl (.inr ⟨_, rfl, by kernel_rfl⟩)
theorem ty106 : TyOK prog 106 tl106 := .of underlying106 (i := t106) (by kernel_rfl) rfl rfl (.inr ⟨_, rfl, by kernel_rfl⟩)
theorem ty107 : TyOK prog 107 tl107 := .of underlying107 (i := t107) (by kernel_rfl) rfl rfl (.inr ⟨_, rfl, by kernel_rfl⟩)
theorem ty108 : TyOK prog 108 tl108 := .of underlying108 (i := t108) (by kernel_rfl) rfl rfl (.inr ⟨_, rfl, by kernel_rfl⟩)
theorem ty109 : TyOK prog 109 tl109 := .of underlying109 (i := t109) (by kernel_rfl) rfl rfl (.inr ⟨_, rfl, by kernel_rfl⟩)
theorem ty110 : TyOK prog 110 tl110 := .of underlying110 (i := t110) (by kernel_rfl) rfl rfl (.inr ⟨_, rfl, by kernel_rfl⟩)
theorem ty111 : TyOK prog 111 tl111 := .of underlying111 (i := t111) (by kernel_rfl) rfl rfl (.inr ⟨_, rfl, by kernel_rfl⟩)
theorem ty112 : TyOK prog 112 tl112 := .of underlying112 (i := t112) (by kernel_rfl) rfl rfl (.inr ⟨_, rfl, by kernel_rfl⟩)
theorem ty113 : TyOK prog 113 tl113 := .of underlying113 (i := t113) (by kernel_rfl) rfl rfl (.inr ⟨_, rfl, by kernel_rfl⟩)
theorem ty114 : TyOK prog 114 tl114 := .of underlying114 (i := t114) (by kernel_rfl) rfl rfl (.inr ⟨_, rfl, by kernel_rfl⟩)
theorem ty115 : TyOK prog 115 tl115 := .of underlying115 (i := t115) (by kernel_rfl) rfl rfl (.inr ⟨_, rfl, by kernel_rfl⟩)
theorem ty116 : TyOK prog 116 tl116 := .of underlying116 (i := t116) (by kernel_rfl) rfl rfl (.inr ⟨_, rfl, by kernel_rfl⟩)
theorem ty117 : TyOK prog 117 tl117 := .of underlying117 (i := t117) (by kernel_rfl) rfl rfl (.inr ⟨_, rfl, by kernel_rfl⟩)
theorem ty118 : TyOK prog 118 tl118 := .of underlying118 (i := t118) (by kernel_rfl) rfl rfl (.inr ⟨_, rfl, by kernel_rfl⟩)
theorem ty119 : TyOK prog 119 tl119 := .of underlying119 (i := t119) (by kernel_rfl) rfl rfl (.inr ⟨_, rfl, by kernel_rfl⟩)
theorem ty120 : TyOK prog 120 tl120 := .of underlying120 (i := t120) (by kernel_rfl) rfl rfl (.inr ⟨_, rfl, by kernel_rfl⟩)
theorem ty121 : TyOK prog 121 tl121 := .of underlying121 (i := t121) (by kernel_rfl) rfl rfl (.inr ⟨_, rfl, by kernel_rfl⟩)
theorem ty122 : TyOK prog 122 tl122 := .of underlying122 (i := t122) (by kernel_rfl) rfl rfl (.inr ⟨_, rfl, by kernel_rfl⟩)
theorem ty123 : TyOK prog 123 tl123 := .of underlying123 (i := t123) (by kernel_rfl) rfl rfl (.inr ⟨_, rfl, by kernel_rfl⟩)
theorem ty124 : TyOK prog 124 tl124 := .of underlying124 (i := t124) (by kernel_rfl) rfl rfl (.inr ⟨_, rfl, by kernel_rfl⟩)
theorem ty125 : TyOK prog 125 tl125 := .of underlying125 (i := t125) (by kernel_rfl) rfl rfl (.inr ⟨_, rfl, by kernel_rfl⟩)
theorem ty126 : TyOK prog 126 tl126 := .of underlying126 (i := t126) (by kernel_rfl) rfl rfl (.inr ⟨_, rfl, by kernel_rfl⟩)
theorem ty127 : TyOK prog 127 tl127 := .of underlying127 (i := t127) (by kernel_rfl) rfl rfl (.inr ⟨_, rfl, by kernel_rfl⟩)
theorem ty128 : TyOK prog 128 tl128 := .of underlying128 (i := t128) (by kernel_rfl) rfl rfl (.inr ⟨_, rfl, by kernel_rfl⟩)
theorem ty129 : TyOK prog 129 tl129 := .of underlying129 (i := t129) (by kernel_rfl) rfl rfl (.inr ⟨_, rfl, by kernel_rfl⟩)
theorem ty130 : TyOK prog 130 tl130 := .of underlying130 (i := t130) (by kernel_rfl) rfl rfl (.inr ⟨_, rfl, by kernel_rfl⟩)
theorem ty131 : TyOK prog 131 tl131 := .of underlying131 (i := t131) (by kernel_rfl) rfl rfl (.inr ⟨_, rfl, by kernel_rfl⟩)
theorem ty132 : TyOK prog 132 tl132 := .of underlying132 (i := t132) (by kernel_rfl) rfl rfl (.inr ⟨_, rfl, by kernel_rfl⟩)
theorem ty133 : TyOK prog 133 tl133 := .of underlying133 (i := t133) (by kernel_rfl) rfl rfl (.inr ⟨_, rfl, by kernel_rfl⟩)
theorem ty134 : TyOK prog 134 tl134 := .of underlying134 (i := t134) (by kernel_rfl) rfl rfl (.inr ⟨_, rfl, by kernel_rfl⟩)
theorem ty135 : TyOK prog 135 tl135 := .of underlying135 (i := t135) (by kernel_rfl) rfl rfl (.inr ⟨_, rfl, by kernel_rfl⟩)
theorem ty136 : TyOK prog 136 tl136 := .of underlying136 (i := t136) (by kernel_rfl) rfl rfl (.inr ⟨_, rfl, by kernel_rfl⟩)
theorem ty137 : TyOK prog 137 tl137 := .of underlying137 (i := t137) (by kernel_rfl) rfl rfl (.inr ⟨_, rfl, by kernel_rfl⟩)
theorem ty138 : TyOK prog 138 tl138 := .of underlying138 (i := t138) (by kernel_rfl) rfl rfl (.inr ⟨_, rfl, by kernel_rfl⟩)
theorem ty139 : TyOK prog 139 tl139 := .of underlying139 (i := t139) (by kernel_rfl) rfl rfl (.inr ⟨_, rfl, by kernel_rfl⟩)
theorem ty140 : TyOK prog 140 tl140 := .of underlying140 (i := t140) (by kernel_rfl) rfl rfl (.inr ⟨_, rfl, by kernel_rfl⟩)
theorem ty141 : TyOK prog 141 tl141 := .of underlying141 (i := t141) (by kernel_rfl) rfl rfl (.inr ⟨_, rfl, by kernel_rfl⟩)
theorem ty142 : TyOK prog 142 tl142 := .of underlying142 (i := t142) (by kernel_rfl) rfl rfl (.inl rfl)
theorem ty143 : TyOK prog 143 tl143 := .of underlying143 (i := t143) (by kernel_rfl) rfl rfl (.inr ⟨_, rfl, by kernel_rfl⟩)
theorem ty144 : TyOK prog 144 tl144 := .of underlying144 (i := t144) (by kernel_rfl) rfl rfl (.inl rfl)
theorem ty145 : TyOK prog 145 tl145 := .of underlying145 (i := t145) (by kernel_rfl) rfl rfl (.inr ⟨_, rfl, by kernel_rfl⟩)
theorem ty146 : TyOK prog 146 tl146 := .of underlying146 (i := t146) (by kernel_rfl) rfl rfl (.inr ⟨_, rfl, by kernel_rfl⟩)
theorem ty147 : TyOK prog 147 tl147 := .of underlying147 (i := t147) (by kernel_rfl) rfl rfl (.inr ⟨_, rfl, by kernel_rfl⟩)
theorem ty148 : TyOK prog 148 tl148 := .of underlying148 (i := t148) (by kernel_rfl) rfl rfl (.inr ⟨_, rfl, by kernel_rfl⟩)
theorem ty149 : TyOK prog 149 tl149 := .of underlying149 (i := t149) (by kernel_rfl) rfl rfl (.inr ⟨_, rfl, by kernel_rfl⟩)
theorem ty150 : TyOK prog 150 tl150 := .of underlying150 (i := t150) (by kernel_rfl) rfl rfl (.inr ⟨_, rfl, by kernel_rfl⟩)
theorem ty151 : TyOK prog 151 tl151 := .of underlying151 (i := t151) (by kernel_rfl) rfl rfl (.inr ⟨_, rfl, by kernel_rfl⟩)
theorem ty152 : TyOK prog 152 tl152 := .of underlying152 (i := t152) (by kernel_rfl) rfl rfl (.inr ⟨_, rfl, by kernel_rfl⟩)
theorem ty153 : TyOK prog 153 tl153 := .of underlying153 (i := t153) (by kernel_rfl) rfl rfl (.inr ⟨_, rfl, by kernel_rfl⟩)
theorem ty154 : TyOK prog 154 tl154 := .of underlying154 (i := t154) (by kernel_rfl) rfl rfl (.inr ⟨_, rfl, by kernel_rfl⟩)
theorem ty155 : TyOK prog 155 tl155 := .of underlying155 (i := t155) (by kernel_rfl) rfl rfl (.inr ⟨_, rfl, by kernel_rfl⟩)
theorem ty156 : TyOK prog 156 tl156 := .of underlying156 (i := t156) (by kernel_rfl) rfl rfl (.inr ⟨_, rfl, by kernel_rfl⟩)
theorem ty157 : TyOK prog 157 tl157 := .of underlying157 (i := t157) (by kernel_rfl) rfl rfl (.inr ⟨_, rfl, by kernel_rfl⟩)
theorem ty158 : TyOK prog 158 tl158 := .of underlying158 (i := t158) (by kernel_rfl) rfl rfl (.inr ⟨_, rfl, by kernel_rfl⟩)
theorem ty159 : TyOK prog 159 tl159 := .of underlying159 (i := t159) (by kernel_rfl) rfl rfl (.inl rfl)
theorem ty160 : TyOK prog 160 tl160 := .of underlying160 (i := t160) (by kernel_rfl) rfl rfl (.inr ⟨_, rfl, by kernel_rfl⟩)
theorem ty161 : TyOK prog 161 tl161 := .of underlying161 (i := t161) (by kernel_rfl) rfl rfl (.inr ⟨_, rfl, by kernel_rfl⟩)
theorem ty162 : TyOK prog 162 tl162 := .of underlying162 (i := t162) (by kernel_rfl) rfl rfl (.inr ⟨_, rfl, by kernel_rfl⟩)
theorem ty163 : TyOK prog 163 tl163 := .of underlying163 (i := t163) (by kernel_rfl) rfl rfl (.inr ⟨_, rfl, by kernel_rfl⟩)
theorem ty164 : TyOK prog 164 tl164 := .of underlying164 (i := t164) (by kernel_rfl) rfl rfl (.inr ⟨_, rfl, by kernel_rfl⟩)
theorem ty165 : TyOK prog 165 tl165 := .of underlying165 (i := t165) (by kernel_rfl) rfl rfl (.inr ⟨_, rfl, by kernel_rfl⟩)
theorem ty166 : TyOK prog 166 tl166 := .of underlying166 (i := t166) (by kernel_rfl) rfl rfl (.inr ⟨_, rfl, by kernel_rfl⟩)
theorem ty167 : TyOK prog 167 tl167 := .of underlying167 (i := t167) (by kernel_rfl) rfl rfl (.inr ⟨_, rfl, by kernel_rfl⟩)
theorem ty168 : TyOK prog 168 tl168 := .of underlying168 (i := t168) (by kernel_rfl) rfl rfl (.inl rfl)
theorem ty169 : TyOK prog 169 tl169 := .of underlying169 (i := t169) (by kernel_rfl) rfl rfl (.inr ⟨_, rfl, by kernel_rfl⟩)
theorem ty170 : TyOK prog 170 tl170 := .of underlying170 (i := t170) (by kernel_rfl) rfl rfl (.inr ⟨_, rfl, by kernel_rfl⟩)
theorem ty171 : TyOK prog 171 tl171 := .of underlying171 (i := t171) (by kernel_rfl) rfl rfl (.inr ⟨_, rfl, by kernel_rfl⟩)
theorem ty172 : TyOK prog 172 tl172 := .of underlying172 (i := t172) (by kernel_rfl) rfl rfl (.inr ⟨_, rfl, by kernel_rfl⟩)
theorem ty173 : TyOK prog 173 tl173 := .of underlying173 (i := t173) (by kernel_rfl) rfl rfl (.inr ⟨_, rfl, by kernel_rfl⟩)
theorem ty174 : TyOK prog 174 tl174 := .of underlying174 (i := t174) (by kernel_rfl) rfl rfl (.inr ⟨_, rfl, by kernel_rfl⟩)
theorem ty175 : TyOK prog 175 tl175 := .of underlying175 (i := t175) (by kernel_rfl) rfl rfl (.inr ⟨_, rfl, by kernel_rfl⟩)
theorem ty176 : TyOK prog 176 tl176 := .of underlying176 (i := t176) (by kernel_rfl) rfl rfl (.inr ⟨_, rfl, by kernel_rfl⟩)
theorem ty177 : TyOK prog 177 tl177 := .of underlying177 (i := t177) (by kernel_rfl) rfl rfl (.inr ⟨_, rfl, by kernel_rfl⟩)
theorem ty178 : TyOK prog 178 tl178 := .of underlying178 (i := t178) (by kernel_rfl) rfl rfl (.inr ⟨_, rfl, by kernel_rfl⟩)
theorem ty179 : TyOK prog 179 tl179 := .of underlying179 (i := t179) (by kernel_rfl) rfl rfl (.inr ⟨_, rfl, by kernel_rfl⟩)
theorem ty180 : TyOK prog 180 tl180 := .of underlying180 (i := t180) (by kernel_rfl) rfl rfl (.inr ⟨_, rfl, by kernel_rfl⟩)
theorem ty181 : TyOK prog 181 tl181 := .of underlying181 (i := t181) (by kernel_rfl) rfl rfl (.inr ⟨_, rfl, by kernel_rfl⟩)
theorem ty182 : TyOK prog 182 tl182 := .of underlying182 (i := t182) (by kernel_rfl) rfl rfl (.inr ⟨_, rfl, by kernel_rfl⟩)
theorem ty183 : TyOK prog 183 tl183 := .of underlying183 (i := t183) (by kernel_rfl) rfl rfl (.inr ⟨_, rfl, by kernel_rfl⟩)
theorem ty184 : TyOK prog 184 tl184 := .of underlying184 (i := t184) (by kernel_rfl) rfl rfl (.inr ⟨_, rfl, by kernel_rfl⟩)
theorem ty185 : TyOK prog 185 tl185 := .of underlying185 (i := t185) (by kernel_rfl) rfl rfl (.inr ⟨_, rfl, by kernel_rfl⟩)
theorem ty186 : TyOK prog 186 tl186 := .of underlying186 (i := t186) (by kernel_rfl) rfl rfl (.inr ⟨_, rfl, by kernel_rfl⟩)
theorem ty187 : TyOK prog 187 tl187 := .of underlying187 (i := t187) (by kernel_rfl) rfl rfl (.inr ⟨_, rfl, by kernel_rfl⟩)
theorem ty188 : TyOK prog 188 tl188 := .of underlying188 (i := t188) (by kernel_rfl) rfl rfl (.inr ⟨_, rfl, by kernel_rfl⟩)
theorem ty189 : TyOK prog 189 tl189 := .of underlying189 (i := t189) (by kernel_rfl) rfl rfl (.inr ⟨_, rfl, by kernel_rfl⟩)
theorem ty190 : TyOK prog 190 tl190 := .of underlying190 (i := t190) (by kernel_rfl) rfl rfl (.inr ⟨_, rfl, by kernel_rfl⟩)
theorem ty191 : TyOK prog 191 tl191 := .of underlying191 (i := t191) (by kernel_rfl) rfl rfl (.inr ⟨_, rfl, by kernel_rfl⟩)
theorem ty192 : TyOK prog 192 tl192 := .of underlying192 (i := t192) (by kernel_rfl) rfl rfl (.inr ⟨_, rfl, by kernel_rfl⟩)
theorem ty193 : TyOK prog 193 tl193 := .of underlying193 (i := t193) (by kernel_rfl) rfl rfl (.inr ⟨_, rfl, by kernel_rfl⟩)
theorem ty194 : TyOK prog 194 tl194 := .of underlying194 (i := t194) (by kernel_rfl) rfl rfl (.inr ⟨_, rfl, by kernel_rfl⟩)
theorem fo3 : FnOK prog 3 fl3 := ⟨⟨f3, func3, by kernel_rfl, ntmps3, by rw [results3]; rfl⟩, call3⟩
theorem fo4 : FnOK prog 4 fl4 := ⟨⟨f4, func4, by kernel_rfl, ntmps4, by rw [results4]; rfl⟩, call4⟩
theorem fo5 : FnOK prog 5 fl5 := ⟨⟨f5, func5, by kernel_rfl, ntmps5, by rw [results5]; rfl⟩, call5⟩
theorem fo6 : FnOK prog 6 fl6 := ⟨⟨f6, func6, by kernel_rfl, ntmps6, by rw [results6]; rfl⟩, call6⟩
theorem fo7 : FnOK prog 7 fl7 := ⟨⟨f7, func7, by kernel_rfl, ntmps7, by rw [results7]; rfl⟩, call7⟩
theorem fo8 : FnOK prog 8 fl8 := ⟨⟨f8, func8, by kernel_rfl, ntmps8, by rw [results8]; rfl⟩, call8⟩
theorem fo9 : FnOK prog 9 fl9 := ⟨⟨f9, func9, by kernel_rfl, ntmps9, by rw [results9]; rfl⟩, call9⟩
theorem fo10 : FnOK prog 10 fl10 := ⟨⟨f10, func10, by kernel_rfl, ntmps10, by rw [results10]; rfl⟩, call10⟩
theorem fo11 : FnOK prog 11 fl11 := ⟨⟨f11, func11, by kernel_rfl, ntmps11, by rw [results11]; rfl⟩, call11⟩
theorem fo12 : FnOK prog 12 fl12 := ⟨⟨f12, func12, by kernel_rfl, ntmps12, by rw [results12]; rfl⟩, call12⟩
theorem fo13 : FnOK prog 13 fl13 := ⟨⟨f13, func13, by kernel_rfl, ntmps13, by rw [results13]; rfl⟩, call13⟩
theorem fo14 : FnOK prog 14 fl14 := ⟨⟨f14, func14, by kernel_rfl, ntmps14, by rw [results14]; rfl⟩, call14⟩
theorem fo15 : FnOK prog 15 fl15 := ⟨⟨f15, func15, by kernel_rfl, ntmps15, by rw [results15]; rfl⟩, call15⟩
theorem fo16 : FnOK prog 16 fl16 := ⟨⟨f16, func16, by kernel_rfl, ntmps16, by rw [results16]; rfl⟩, call16⟩
theorem fo17 : FnOK prog 17 fl17 := ⟨⟨f17, func17, by kernel_rfl, ntmps17, by rw [results17]; rfl⟩, call17⟩
theorem fo18 : FnOK prog 18 fl18 := ⟨⟨f18, func18, by kernel_rfl, ntmps18, by rw [results18]; rfl⟩, call18⟩
theorem fo19 : FnOK prog 19 fl19 := ⟨⟨f19, func19, by kernel_rfl, ntmps19, by rw [results19]; rfl⟩, call19⟩
theorem fo20 : FnOK prog 20 fl20 := ⟨⟨f20, func20, by kernel_rfl, ntmps20, by rw [results20]; rfl⟩, call20⟩
theorem fo21 : FnOK prog 21 fl21 := ⟨⟨f21, func21, by kernel_rfl, ntmps21, by rw [results21]; rfl⟩, call21⟩
theorem fo22 : FnOK prog 22 fl22 := ⟨⟨f22, func22, by kernel_rfl, ntmps22, by rw [results22]; rfl⟩, call22⟩
theorem fo23 : FnOK prog 23 fl23 := ⟨⟨f23, func23, by kernel_rfl, ntmps23, by rw [results23]; rfl⟩, call23⟩
theorem fo24 : FnOK prog 24 fl24 := ⟨⟨f24, func24, by kernel_rfl, ntmps24, by rw [results24]; rfl⟩, call24⟩
theorem fo25 : FnOK prog 25 fl25 := ⟨⟨f25, func25, by kernel_rfl, ntmps25, by rw [results25]; rfl⟩, call25⟩
theorem fo26 : FnOK prog 26 fl26 := ⟨⟨f26, func26, by kernel_rfl, ntmps26, by rw [results26]; rfl⟩, call26⟩
theorem fo27 : FnOK prog 27 fl27 := ⟨⟨f27, func27, by kernel_rfl, ntmps27, by rw [results27]; rfl⟩, call27⟩
theorem fo28 : FnOK prog 28 fl28 := ⟨⟨f28, func28, by kernel_rfl, ntmps28, by rw [results28]; rfl⟩, call28⟩
theorem fo29 : FnOK prog 29 fl29 := ⟨⟨f29, func29, by kernel_rfl, ntmps29, by rw [results29]; rfl⟩, call29⟩
theorem fo30 : FnOK prog 30 fl30 := ⟨⟨f30, func30, by kernel_rfl, ntmps30, by rw [results30]; rfl⟩, call30⟩
theorem fo31 : FnOK prog 31 fl31 := ⟨⟨f31, func31, by kernel_rfl, ntmps31, by rw [results31]; rfl⟩, call31⟩
theorem fo32 : FnOK prog 32 fl32 := ⟨⟨f32, func32, by kernel_rfl, ntmps32, by rw [results32]; rfl⟩, call32⟩
theorem fo33 : FnOK prog 33 fl33 := ⟨⟨f33, func33, by kernel_rfl, ntmps33, by rw [results33]; rfl⟩, call33⟩
theorem fo34 : FnOK prog 34 fl34 := ⟨⟨f34, func34, by kernel_rfl, ntmps34, by rw [results34]; rfl⟩, call34⟩
theorem fo35 : FnOK prog 35 fl35 := ⟨⟨f35, func35, by kernel_rfl, ntmps35, by rw [results35]; rfl⟩, call35⟩
theorem fo36 : FnOK prog 36 fl36 := ⟨⟨f36, func36, by kernel_rfl, ntmps36, by rw [results36]; rfl⟩, call36⟩
theorem fo37 : FnOK prog 37 fl37 := ⟨⟨f37, func37, by kernel_rfl, ntmps37, by rw [results37]; rfl⟩, call37⟩
theorem fo38 : FnOK prog 38 fl38 := ⟨⟨f38, func38, by kernel_rfl, ntmps38, by rw [results38]; rfl⟩, call38⟩
theorem fo39 : FnOK prog 39 fl39 := ⟨⟨f39, func39, by kernel_rfl, ntmps39, by rw [results39]; rfl⟩, call39⟩
theorem fo40 : FnOK prog 40 fl40 := ⟨⟨f40, func40, by kernel_rfl, ntmps40, by rw [results40]; rfl⟩, call40⟩
theorem fo41 : FnOK prog 41 fl41 := ⟨⟨f41, func41, by kernel_rfl, ntmps41, by rw [results41]; rfl⟩, call41⟩
theorem fo42 : FnOK prog 42 fl42 := ⟨⟨f42, func42, by kernel_rfl, ntmps42, by rw [results42]; rfl⟩, call42⟩
theorem fo43 : FnOK prog 43 fl43 := ⟨⟨f43, func43, by kernel_rfl, ntmps43, by rw [results43]; rfl⟩, call43⟩
theorem fo44 : FnOK prog 44 fl44 := ⟨⟨f44, func44, by kernel_rfl, ntmps44, by rw [results44]; rfl⟩, call44⟩
theorem fo45 : FnOK prog 45 fl45 := ⟨⟨f45, func45, by kernel_rfl, ntmps45, by rw [results45]; rfl⟩, call45⟩
theorem fo46 : FnOK prog 46 fl46 := ⟨⟨f46, func46, by kernel_rfl, ntmps46, by rw [results46]; rfl⟩, call46⟩
theorem fo47 : FnOK prog 47 fl47 := ⟨⟨f47, func47, by kernel_rfl, ntmps47, by rw [results47]; rfl⟩, call47⟩
theorem fo48 : FnOK prog 48 fl48 := ⟨⟨f48, func48, by kernel_rfl, ntmps48, by rw [results48]; rfl⟩, call48⟩
theorem fo49 : FnOK prog 49 fl49 := ⟨⟨f49, func49, by kernel_rfl, ntmps49, by rw [results49]; rfl⟩, call49⟩
theorem fo50 : FnOK prog 50 fl50 := ⟨⟨f50, func50, by kernel_rfl, ntmps50, by rw [results50]; rfl⟩, call50⟩
theorem fo51 : FnOK prog 51 fl51 := ⟨⟨f51, func51, by kernel_rfl, ntmps51, by rw [results51]; rfl⟩, call51⟩
theorem fo52 : FnOK prog 52 fl52 := ⟨⟨f52, func52, by kernel_rfl, ntmps52, by rw [results52]; rfl⟩, call52⟩
theorem fo53 : FnOK prog 53 fl53 := ⟨⟨f53, func53, by kernel_rfl, ntmps53, by rw [results53]; rfl⟩, call53⟩
theorem fo54 : FnOK prog 54 fl54 := ⟨⟨f54, func54, by kernel_rfl, ntmps54, by rw [results54]; rfl⟩, call54⟩
theorem fo55 : FnOK prog 55 fl55 := ⟨⟨f55, func55, by kernel_rfl, ntmps55, by rw [results55]; rfl⟩, call55⟩
theorem fo56 : FnOK prog 56 fl56 := ⟨⟨f56, func56, by kernel_rfl, ntmps56, by rw [results56]; rfl⟩, call56⟩
theorem fo57 : FnOK prog 57 fl57 := ⟨⟨f57, func57, by kernel_rfl, ntmps57, by rw [results57]; rfl⟩, call57⟩
theorem fo58 : FnOK prog 58 fl58 := ⟨⟨f58, func58, by kernel_rfl, ntmps58, by rw [results58]; rfl⟩, call58⟩
theorem fo59 : FnOK prog 59 fl59 := ⟨⟨f59, func59, by kernel_rfl, ntmps59, by rw [results59]; rfl⟩, call59⟩
theorem fo60 : FnOK prog 60 fl60 := ⟨⟨f60, func60, by kernel_rfl, ntmps60, by rw [results60]; rfl⟩, call60⟩
theorem fo61 : FnOK prog 61 fl61 := ⟨⟨f61, func61, by kernel_rfl, ntmps61, by rw [results61]; rfl⟩, call61⟩
theorem fo62 : FnOK prog 62 fl62 := ⟨⟨f62, func62, by kernel_rfl, ntmps62, by rw [results62]; rfl⟩, call62⟩
theorem fo63 : FnOK prog 63 fl63 := ⟨⟨f63, func63, by kernel_rfl, ntmps63, by rw [results63]; rfl⟩, call63⟩
theorem fo64 : FnOK prog 64 fl64 := ⟨⟨f64, func64, by kernel_rfl, ntmps64, by rw [results64]; rfl⟩, call64⟩
theorem fo65 : FnOK prog 65 fl65 := ⟨⟨f65, func65, by kernel_rfl, ntmps65, by rw [results65]; rfl⟩, call65⟩
theorem fo66 : FnOK prog 66 fl66 := ⟨⟨f66, func66, by kernel_rfl, ntmps66, by rw [results66]; rfl⟩, call66⟩
theorem fo67 : FnOK prog 67 fl67 := ⟨⟨f67, func67, by kernel_rfl, ntmps67, by rw [results67]; rfl⟩, call67⟩
theorem fo68 : FnOK prog 68 fl68 := ⟨⟨f68, func68, by kernel_rfl, ntmps68, by rw [results68]; rfl⟩, call68⟩
theorem fo69 : FnOK prog 69 fl69 := ⟨⟨f69, func69, by kernel_rfl, ntmps69, by rw [results69]; rfl⟩, call69⟩
theorem fo70 : FnOK prog 70 fl70 := ⟨⟨f70, func70, by kernel_rfl, ntmps70, by rw [results70]; rfl⟩, call70⟩
theorem fo71 : FnOK prog 71 fl71 := ⟨⟨f71, func71, by kernel_rfl, ntmps71, by rw [results71]; rfl⟩, call71⟩
theorem fo72 : FnOK prog 72 fl72 := ⟨⟨f72, func72, by kernel_rfl, ntmps72, by rw [results72]; rfl⟩, call72⟩
theorem fo73 : FnOK prog 73 fl73 := ⟨⟨f73, func73, by kernel_rfl, ntmps73, by rw [results73]; rfl⟩, call73⟩
theorem fo74 : FnOK prog 74 fl74 := ⟨⟨f74, func74, by kernel_rfl, ntmps74, by rw [results74]; rfl⟩, call74⟩
theorem fo75 : FnOK prog 75 fl75 := ⟨⟨f75, func75, by kernel_rfl, ntmps75, by rw [results75]; rfl⟩, call75⟩
theorem fo76 : FnOK prog 76 fl76 := ⟨⟨f76, func76, by kernel_rfl, ntmps76, by rw [results76]; rfl⟩, call76⟩
theorem fo77 : FnOK prog 77 fl77 := ⟨⟨f77, func77, by kernel_rfl, ntmps77, by rw [results77]; rfl⟩, call77⟩
theorem fo78 : FnOK prog 78 fl78 := ⟨⟨f78, func78, by kernel_rfl, ntmps78, by rw [results78]; rfl⟩, call78⟩
theorem fo79 : FnOK prog 79 fl79 := ⟨⟨f79, func79, by kernel_rfl, ntmps79, by rw [results79]; rfl⟩, call79⟩
theorem fo80 : FnOK prog 80 fl80 := ⟨⟨f80, func80, by kernel_rfl, ntmps80, by rw [results80]; rfl⟩, call80⟩
theorem fo81 : FnOK prog 81 fl81 := ⟨⟨f81, func81, by kernel_rfl, ntmps81, by rw [results81]; rfl⟩, call81⟩
theorem fo82 : FnOK prog 82 fl82 := ⟨⟨f82, func82, by kernel_rfl, ntmps82, by rw [results82]; rfl⟩, call82⟩
theorem fo83 : FnOK prog 83 fl83 := ⟨⟨f83, func83, by kernel_rfl, ntmps83, by rw [results83]; rfl⟩, call83⟩
theorem fo84 : FnOK prog 84 fl84 := ⟨⟨f84, func84, by kernel_rfl, ntmps84, by rw [results84]; rfl⟩, call84⟩
theorem fo85 : FnOK prog 85 fl85 := ⟨⟨f85, func85, by kernel_rfl, ntmps85, by rw [results85]; rfl⟩, call85⟩
theorem fo86 : FnOK prog 86 fl86 := ⟨⟨f86, func86, by kernel_rfl, ntmps86, by rw [results86]; rfl⟩, call86⟩
theorem fo87 : FnOK prog 87 fl87 := ⟨⟨f87, func87, by kernel_rfl, ntmps87, by rw [results87]; rfl⟩, call87⟩
theorem fo88 : FnOK prog 88 fl88 := ⟨⟨f88, func88, by kernel_rfl, ntmps88, by rw [results88]; rfl⟩, call88⟩
theorem fo89 : FnOK prog 89 fl89 := ⟨⟨f89, func89, by kernel_rfl, ntmps89, by rw [results89]; rfl⟩, call89⟩
theorem fo90 : FnOK prog 90 fl90 := ⟨⟨f90, func90, by kernel_rfl, ntmps90, by rw [results90]; rfl⟩, call90⟩
theorem fo91 : FnOK prog 91 fl91 := ⟨⟨f91, func91, by kernel_rfl, ntmps91, by rw [results91]; rfl⟩, call91⟩
theorem fo92 : FnOK prog 92 fl92 := ⟨⟨f92, func92, by kernel_rfl, ntmps92, by rw [results92]; rfl⟩, call92⟩
theorem fo93 : FnOK prog 93 fl93 := ⟨⟨f93, func93, by kernel_rfl, ntmps93, by rw [results93]; rfl⟩, call93⟩
theorem fo94 : FnOK prog 94 fl94 := ⟨⟨f94, func94, by kernel_rfl, ntmps94, by rw [results94]; rfl⟩, call94⟩
theorem fo95 : FnOK prog 95 fl95 := ⟨⟨f95, func95, by kernel_rfl, ntmps95, by rw [results95]; rfl⟩, call95⟩
theorem fo96 : FnOK prog 96 fl96 := ⟨⟨f96, func96, by kernel_rfl, ntmps96, by rw [results96]; rfl⟩, call96⟩
theorem fo97 : FnOK prog 97 fl97 := ⟨⟨f97, func97, by kernel_rfl, ntmps97, by rw [results97]; rfl⟩, call97⟩
theorem fo98 : FnOK prog 98 fl98 := ⟨⟨f98, func98, by kernel_rfl, ntmps98, by rw [results98]; rfl⟩, call98⟩
theorem fo99 : FnOK prog 99 fl99 := ⟨⟨f99, func99, by kernel_rfl, ntmps99, by rw [results99]; rfl⟩, call99⟩
theorem fo100 : FnOK prog 100 fl100 := ⟨⟨f100, func100, by kernel_rfl, ntmps100, by rw [results100]; rfl⟩, call100⟩
theorem fo101 : FnOK prog 101 fl101 := ⟨⟨f101, func101, by kernel_rfl, ntmps101, by rw [results101]; rfl⟩, call101⟩
theorem fo102 : FnOK prog 102 fl102 := ⟨⟨f102, func102, by kernel_rfl, ntmps102, by rw [results102]; rfl⟩, call102⟩
theorem fo103 : FnOK prog 103 fl103 := ⟨⟨f103, func103, by kernel_rfl, ntmps103, by rw [results103]; rfl⟩, call103⟩
theorem fo104 : FnOK prog 104 fl104 := ⟨⟨f104, func104, by kernel_rfl, ntmps104, by rw [results104]; rfl⟩, call104⟩
theorem fo105 : FnOK prog 105 fl105 := ⟨⟨f105, func105, by kernel_rfl, ntmps105, by rw [results105]; rfl⟩, call105⟩
theorem fo106 : FnOK prog 106 fl106 := ⟨⟨f106, func106, by kernel_rfl, ntmps106, by rw [results106]; rfl⟩, call106⟩
theorem fo107 : FnOK prog 107 fl107 := ⟨⟨f107, func107, by kernel_rfl, ntmps107, by rw [results107]; rfl⟩, call107⟩
theorem fo108 : FnOK prog 108 fl108 := ⟨⟨f108, func108, by kernel_rfl, ntmps108, by rw [results108]; rfl⟩, call108⟩
theorem fo109 : FnOK prog 109 fl109 := ⟨⟨f109, func109, by kernel_rfl, ntmps109, by rw [results109]; rfl⟩, call109⟩
theorem fo110 : FnOK prog 110 fl110 := ⟨⟨f110, func110, by kernel_rfl, ntmps110, by rw [results110]; rfl⟩, call110⟩
theorem fo111 : FnOK prog 111 fl111 := ⟨⟨f111, func111, by kernel_rfl, ntmps111, by rw [results111]; rfl⟩, call111⟩
theorem fo112 : FnOK prog 112 fl112 := ⟨⟨f112, func112, by kernel_rfl, ntmps112, by rw [results112]; rfl⟩, call112⟩
theorem fo113 : FnOK prog 113 fl113 := ⟨⟨f113, func113, by kernel_rfl, ntmps113, by rw [results113]; rfl⟩, call113⟩
theorem fo114 : FnOK prog 114 fl114 := ⟨⟨f114, func114, by kernel_rfl, ntmps114, by rw [results114]; rfl⟩, call114⟩
theorem fo115 : FnOK prog 115 fl115 := ⟨⟨f115, func115, by kernel_rfl, ntmps115, by rw [results115]; rfl⟩, call115⟩
theorem fo116 : FnOK prog 116 fl116 := ⟨⟨f116, func116, by kernel_rfl, ntmps116, by rw [results116]; rfl⟩, call116⟩
theorem fo117 : FnOK prog 117 fl117 := ⟨⟨f117, func117, by kernel_rfl, ntmps117, by rw [results117]; rfl⟩, call117⟩
theorem fo118 : FnOK prog 118 fl118 := ⟨⟨f118, func118, by kernel_rfl, ntmps118, by rw [results118]; rfl⟩, call118⟩
theorem fo119 : FnOK prog 119 fl119 := ⟨⟨f119, func119, by kernel_rfl, ntmps119, by rw [results119]; rfl⟩, call119⟩
theorem fo120 : FnOK prog 120 fl120 := ⟨⟨f120, func120, by kernel_rfl, ntmps120, by rw [results120]; rfl⟩, call120⟩
theorem fo121 : FnOK prog 121 fl121 := ⟨⟨f121, func121, by kernel_rfl, ntmps121, by rw [results121]; rfl⟩, call121⟩
theorem fo122 : FnOK prog 122 fl122 := ⟨⟨f122, func122, by kernel_rfl, ntmps122, by rw [results122]; rfl⟩, call122⟩
theorem fo123 : FnOK prog 123 fl123 := ⟨⟨f123, func123, by kernel_rfl, ntmps123, by rw [results123]; rfl⟩, call123⟩
theorem fo124 : FnOK prog 124 fl124 := ⟨⟨f124, func124, by kernel_rfl, ntmps124, by rw [results124]; rfl⟩, call124⟩
theorem fo125 : FnOK prog 125 fl125 := ⟨⟨f125, func125, by kernel_rfl, ntmps125, by rw [results125]; rfl⟩, call125⟩
theorem fo126 : FnOK prog 126 fl126 := ⟨⟨f126, func126, by kernel_rfl, ntmps126, by rw [results126]; rfl⟩, call126⟩
theorem fo127 : FnOK prog 127 fl127 := ⟨⟨f127, func127, by kernel_rfl, ntmps127, by rw [results127]; rfl⟩, call127⟩
theorem fo128 : FnOK prog 128 fl128 := ⟨⟨f128, func128, by kernel_rfl, ntmps128, by rw [results128]; rfl⟩, call128⟩
theorem fo129 : FnOK prog 129 fl129 := ⟨⟨f129, func129, by kernel_rfl, ntmps129, by rw [results129]; rfl⟩, call129⟩
theorem tyAll : AllB (TyOK prog) tyT (fun k => k) := ⟨(fun y h => by injection h with h; subst h; exact ty0), ⟨(fun y h => by injection h with h; subst h; exact ty1), ⟨(fun y h => by injection h with h; subst h; exact ty3), ⟨(fun y h => by injection h with h; subst h; exact ty7), ⟨(fun y h => by injection h with h; subst h; exact ty15), ⟨(fun y h => by injection h with h; subst h; exact ty31), ⟨(fun y h => by injection h with h; subst h; exact ty63), ⟨(fun y h => by injection h with h; subst h; exact ty127), trivial, trivial⟩, ⟨(fun y h => by injection h with h; subst h; exact ty191), trivial, trivial⟩⟩, ⟨(fun y h => by injection h with h; subst h; exact ty95), ⟨(fun y h => by injection h with h; subst h; exact ty159), trivial, trivial⟩, trivial⟩⟩, ⟨(fun y h => by injection h with h; subst h; exact ty47), ⟨(fun y h => by injection h with h; subst h; exact ty79), ⟨(fun y h => by injection h with h; subst h; exact ty143), trivial, trivial⟩, trivial⟩, ⟨(fun y h => by injection h with h; subst h; exact ty111), ⟨(fun y h => by injection h with h; subst h; exact ty175), trivial, trivial⟩, trivial⟩⟩⟩, ⟨(fun y h => by injection h with h; subst h; exact ty23), ⟨(fun y h => by injection h with h; subst h; exact ty39), ⟨(fun y h => by injection h with h; subst h; exact ty71), ⟨(fun y h => by injection h with h; subst h; exact ty135), trivial, trivial⟩, trivial⟩, ⟨(fun y h => by injection h with h; subst h; exact ty103), ⟨(fun y h => by injection h with h; subst h; exact ty167), trivial, trivial⟩, trivial⟩⟩, ⟨(fun y h => by injection h with h; subst h; exact ty55), ⟨(fun y h => by injection h with h; subst h; exact ty87), ⟨(fun y h => by injection h with h; subst h; exact ty151), trivial, trivial⟩, trivial⟩, ⟨(fun y h => by injection h with h; subst h; exact ty119), ⟨(fun y h => by injection h with h; subst h; exact ty183), trivial, trivial⟩, trivial⟩⟩⟩⟩, ⟨(fun y h => by injection h with h; subst h; exact ty11), ⟨(fun y h => by injection h with h; subst h; exact ty19), ⟨(fun y h => by injection h with h; subst h; exact ty35), ⟨(fun y h => by injection h with h; subst h; exact ty67), ⟨(fun y h => by injection h with h; subst h; exact ty131), trivial, trivial⟩, trivial⟩, ⟨(fun y h => by injection h with h; subst h; exact ty99), ⟨(fun y h => by injection h with h; subst h; exact ty163), trivial, trivial⟩, trivial⟩⟩, ⟨(fun y h => by injection h with h; subst h; exact ty51), ⟨(fun y h => by injection h with h; subst h; exact ty83), ⟨(fun y h => by injection h with h; subst h; exact ty147), trivial, trivial⟩, trivial⟩, ⟨(fun y h => by injection h with h; subst h; exact ty115), ⟨(fun y h => by injection h with h; subst h; exact ty179), trivial, trivial⟩, trivial⟩⟩⟩, ⟨(fun y h => by injection h with h; subst h; exact ty27), ⟨(fun y h => by injection h with h; subst h; exact ty43), ⟨(fun y h => by injection h with h; subst h; exact ty75), ⟨(fun y h => by injection h with h; subst h; exact ty139), trivial, trivial⟩, trivial⟩, ⟨(fun y h => by injection h with h; subst h; exact ty107), ⟨(fun y h => by injection h with h; subst h; exact ty171), trivial, trivial⟩, trivial⟩⟩, ⟨(fun y h => by injection h with h; subst h; exact ty59), ⟨(fun y h => by injection h with h; subst h; exact ty91), ⟨(fun y h => by injection h with h; subst h; exact ty155), trivial, trivial⟩, trivial⟩, ⟨(fun y h => by injection h with h; subst h; exact ty123), ⟨(fun y h => by injection h with h; subst h; exact ty187), trivial, trivial⟩, trivial⟩⟩⟩⟩⟩, ⟨(fun y h => by injection h with h; subst h; exact ty5), ⟨(fun y h => by injection h with h; subst h; exact ty9), ⟨(fun y h => by injection h with h; subst h; exact ty17), ⟨(fun y h => by injection h with h; subst h; exact ty33), ⟨(fun y h => by injection h with h; subst h; exact ty65), ⟨(fun y h => by injection h with h; subst h; exact ty129), trivial, trivial⟩, ⟨(fun y h => by injection h with h; subst h; exact ty193), trivial, trivial⟩⟩, ⟨(fun y h => by injection h with h; subst h; exact ty97), ⟨(fun y h => by injection h with h; subst h; exact ty161), trivial, trivial⟩, trivial⟩⟩, ⟨(fun y h => by injection h with h; subst h; exact ty49), ⟨(fun y h => by injection h with h; subst h; exact ty81), ⟨(fun y h => by injection h with h; subst h; exact ty145), trivial, trivial⟩, trivial⟩, ⟨(fun y h => by injection h with h; subst h; exact ty113), ⟨(fun y h => by injection h with h; subst h; exact ty177), trivial, trivial⟩, trivial⟩⟩⟩, ⟨(fun y h => by injection h with h; subst h; exact ty25), ⟨(fun y h => by injection h with h; subst h; exact ty41), ⟨(fun y h => by injection h with h; subst h; exact ty73), ⟨(fun y h => by injection h with h; subst h; exact ty137), trivial, trivial⟩, trivial⟩, ⟨(fun y h => by injection h with h; subst h; exact ty105), ⟨(fun y h => by injection h with h; subst h; exact ty169), trivial, trivial⟩, trivial⟩⟩, ⟨(fun y h => by injection h with h; subst h; exact ty57), ⟨(fun y h => by injection h with h; subst h; exact ty89), ⟨(fun y h => by injection h with h; subst h; exact ty153), trivial, trivial⟩, trivial⟩, ⟨(fun y h => by injection h with h; subst h; exact ty121), ⟨(fun y h => by injection h with h; subst h; exact ty185), trivial, trivial⟩, trivial⟩⟩⟩⟩, ⟨(fun y h => by injection h with h; subst h; exact ty13), ⟨(fun y h => by injection h with h; subst h; exact ty21), ⟨(fun y h => by injection h with h; subst h; exact ty37), ⟨(fun y h => by injection h with h; subst h; exact ty69), ⟨(fun y h => by injection h with h; subst h; exact ty133), trivial, trivial⟩, trivial⟩, ⟨(fun y h => by injection h with h; subst h; exact ty101), ⟨(fun y h => by injection h with h; subst h; exact ty165), trivial, trivial⟩, trivial⟩⟩, ⟨(fun y h => by injection h with h; subst h; exact ty53), ⟨(fun y h => by injection h with h; subst h; exact ty85), ⟨(fun y h => by injection h with h; subst h; exact ty149), trivial, trivial⟩, trivial⟩, ⟨(fun y h => by injection h with h; subst h; exact ty117), ⟨(fun y h => by injection h with h; subst h; exact ty181), trivial, trivial⟩, trivial⟩⟩⟩, ⟨(fun y h => by injection h with h; subst h; exact ty29), ⟨(fun y h => by injection h with h; subst h; exact ty45), ⟨(fun y h => by injection h with h; subst h; exact ty77), ⟨(fun y h => by injection h with h; subst h; exact ty141), trivial, trivial⟩, trivial⟩, ⟨(fun y h => by injection h with h; subst h; exact ty109), ⟨(fun y h => by injection h with h; subst h; exact ty173), trivial, trivial⟩, trivial⟩⟩, ⟨(fun y h => by injection h with h; subst h; exact ty61), ⟨(fun y h => by injection h with h; subst h; exact ty93), ⟨(fun y h => by injection h with h; subst h; exact ty157), trivial, trivial⟩, trivial⟩, ⟨(fun y h => by injection h with h; subst h; exact ty125), ⟨(fun y h => by injection h with h; subst h; exact ty189), trivial, trivial⟩, trivial⟩⟩⟩⟩⟩⟩, ⟨(fun y h => by injection h with h; subst h; exact ty2), ⟨(fun y h => by injection h with h; subst h; exact ty4), ⟨(fun y h => by injection h with h; subst h; exact ty8), ⟨(fun y h => by injection h with h; subst h; exact ty16), ⟨(fun y h => by injection h with h; subst h; exact ty32), ⟨(fun y h => by injection h with h; subst h; exact ty64), ⟨(fun y h => by injection h with h; subst h; exact ty128), trivial, trivial⟩, ⟨(fun y h => by injection h with h; subst h; exact ty192), trivial, trivial⟩⟩, ⟨(fun y h => by injection h with h; subst h; exact ty96), ⟨(fun y h => by injection h with h; subst h; exact ty160), trivial, trivial⟩, trivial⟩⟩, ⟨(fun y h => by injection h with h; subst h; exact ty48), ⟨(fun y h => by injection h with h; subst h; exact ty80), ⟨(fun y h => by injection h with h; subst h; exact ty144), trivial, trivial⟩, trivial⟩, ⟨(fun y h => by injection h with h; subst h; exact ty112), ⟨(fun y h => by injection h with h; subst h; exact ty176), trivial, trivial⟩, trivial⟩⟩⟩, ⟨(fun y h => by injection h with h; subst h; exact ty24), ⟨(fun y h => by injection h with h; subst h; exact ty40), ⟨(fun y h => by injection h with h; subst h; exact ty72), ⟨(fun y h => by injection h with h; subst h; exact ty136), trivial, trivial⟩, trivial⟩, ⟨(fun y h => by injection h with h; subst h; exact ty104), ⟨(fun y h => by injection h with h; subst h; exact ty168), trivial, trivial⟩, trivial⟩⟩, ⟨(fun y h => by injection h with h; subst h; exact ty56), ⟨(fun y h => by injection h with h; subst h; exact ty88), ⟨(fun y h => by injection h with h; subst h; exact ty152), trivial, trivial⟩, trivial⟩, ⟨(fun y h => by injection h with h; subst h; exact ty120), ⟨(fun y h => by injection h with h; subst h; exact ty184), trivial, trivial⟩, trivial⟩⟩⟩⟩, ⟨(fun y h => by injection h with h; subst h; exact ty12), ⟨(fun y h => by injection h with h; subst h; exact ty20), ⟨(fun y h => by injection h with h; subst h; exact ty36), ⟨(fun y h => by injection h with h; subst h; exact ty68), ⟨(fun y h => by injection h with h; subst h; exact ty132), trivial, trivial⟩, trivial⟩, ⟨(fun y h => by injection h with h; subst h; exact ty100), ⟨(fun y h => by injection h with h; subst h; exact ty164), trivial, trivial⟩, trivial⟩⟩, ⟨(fun y h => by injection h with h; subst h; exact ty52), ⟨(fun y h => by injection h with h; subst h; exact ty84), ⟨(fun y h => by injection h with h; subst h; exact ty148), trivial, trivial⟩, trivial⟩, ⟨(fun y h => by injection h with h; subst h; exact ty116), ⟨(fun y h => by injection h with h; subst h; exact ty180), trivial, trivial⟩, trivial⟩⟩⟩, ⟨(fun y h => by injection h with h; subst h; exact ty28), ⟨(fun y h => by injection h with h; subst h; exact ty44), ⟨(fun y h => by injection h with h; subst h; exact ty76), ⟨(fun y h => by injection h with h; subst h; exact ty140), trivial, trivial⟩, trivial⟩, ⟨(fun y h => by injection h with h; subst h; exact ty108), ⟨(fun y h => by injection h with h; subst h; exact ty172), trivial, trivial⟩, trivial⟩⟩, ⟨(fun y h => by injection h with h; subst h; exact ty60), ⟨(fun y h => by injection h with h; subst h; exact ty92), ⟨(fun y h => by injection h with h; subst h; exact ty156), trivial, trivial⟩, trivial⟩, ⟨(fun y h => by injection h with h; subst h; exact ty124), ⟨(fun y h => by injection h with h; subst h; exact ty188), trivial, trivial⟩, trivial⟩⟩⟩⟩⟩, ⟨(fun y h => by injection h with h; subst h; exact ty6), ⟨(fun y h => by injection h with h; subst h; exact ty10), ⟨(fun y h => by injection h with h; subst h; exact ty18), ⟨(fun y h => by injection h with h; subst h; exact ty34), ⟨(fun y h => by injection h with h; subst h; exact ty66), ⟨(fun y h => by injection h with h; subst h; exact ty130), trivial, trivial⟩, ⟨(fun y h => by injection h with h; subst h; exact ty194), trivial, trivial⟩⟩, ⟨(fun y h => by injection h with h; subst h; exact ty98), ⟨(fun y h => by injection h with h; subst h; exact ty162), trivial, trivial⟩, trivial⟩⟩, ⟨(fun y h => by injection h with h; subst h; exact ty50), ⟨(fun y h => by injection h with h; subst h; exact ty82), ⟨(fun y h => by injection h with h; subst h; exact ty146), trivial, trivial⟩, trivial⟩, ⟨(fun y h => by injection h with h; subst h; exact ty114), ⟨(fun y h => by injection h with h; subst h; exact ty178), trivial, trivial⟩, trivial⟩⟩⟩, ⟨(fun y h => by injection h with h; subst h; exact ty26), ⟨(fun y h => by injection h with h; subst h; exact ty42), ⟨(fun y h => by injection h with h; subst h; exact ty74), ⟨(fun y h => by injection h with h; subst h; exact ty138), trivial, trivial⟩, trivial⟩, ⟨(fun y h => by injection h with h; subst h; exact ty106), ⟨(fun y h => by injection h with h; subst h; exact ty170), trivial, trivial⟩, trivial⟩⟩, ⟨(fun y h => by injection h with h; subst h; exact ty58), ⟨(fun y h => by injection h with h; subst h; exact ty90), ⟨(fun y h => by injection h with h; subst h; exact ty154), trivial, trivial⟩, trivial⟩, ⟨(fun y h => by injection h with h; subst h; exact ty122), ⟨(fun y h => by injection h with h; subst h; exact ty186), trivial, trivial⟩, trivial⟩⟩⟩⟩, ⟨(fun y h => by injection h with h; subst h; exact ty14), ⟨(fun y h => by injection h with h; subst h; exact ty22), ⟨(fun y h => by injection h with h; subst h; exact ty38), ⟨(fun y h => by injection h with h; subst h; exact ty70), ⟨(fun y h => by injection h with h; subst h; exact ty134), trivial, trivial⟩, trivial⟩, ⟨(fun y h => by injection h with h; subst h; exact ty102), ⟨(fun y h => by injection h with h; subst h; exact ty166), trivial, trivial⟩, trivial⟩⟩, ⟨(fun y h => by injection h with h; subst h; exact ty54), ⟨(fun y h => by injection h with h; subst h; exact ty86), ⟨(fun y h => by injection h with h; subst h; exact ty150), trivial, trivial⟩, trivial⟩, ⟨(fun y h => by injection h with h; subst h; exact ty118), ⟨(fun y h => by injection h with h; subst h; exact ty182), trivial, trivial⟩, trivial⟩⟩⟩, ⟨(fun y h => by injection h with h; subst h; exact ty30), ⟨(fun y h => by injection h with h; subst h; exact ty46), ⟨(fun y h => by injection h with h; subst h; exact ty78), ⟨(fun y h => by injection h with h; subst h; exact ty142), trivial, trivial⟩, trivial⟩, ⟨(fun y h => by injection h with h; subst h; exact ty110), ⟨(fun y h => by injection h with h; subst h; exact ty174), trivial, trivial⟩, trivial⟩⟩, ⟨(fun y h => by injection h with h; subst h; exact ty62), ⟨(fun y h => by injection h with h; subst h; exact ty94), ⟨(fun y h => by injection h with h; subst h; exact ty158), trivial, trivial⟩, trivial⟩, ⟨(fun y h => by injection h with h; subst h; exact ty126), ⟨(fun y h => by injection h with h; subst h; exact ty190), trivial, trivial⟩, trivial⟩⟩⟩⟩⟩⟩⟩
theorem fnAll : AllB (FnOK prog) fnT (fun k => k) := ⟨(fun y h => by cases h), ⟨(fun y h => by cases h), ⟨(fun y h => by injection h with h; subst h; exact fo3), ⟨(fun y h => by injection h with h; subst h; exact fo7), ⟨(fun y h => by injection h with h; subst h; exact fo15), ⟨(fun y h => by injection h with h; subst h; exact fo31), ⟨(fun y h => by injection h with h; subst h; exact fo63), ⟨(fun y h => by injection h with h; subst h; exact fo127), trivial, trivial⟩, trivial⟩, ⟨(fun y h => by injection h with h; subst h; exact fo95), trivial, trivial⟩⟩, ⟨(fun y h => by injection h with h; subst h; exact fo47), ⟨(fun y h => by injection h with h; subst h; exact fo79), trivial, trivial⟩, ⟨(fun y h => by injection h with h; subst h; exact fo111), trivial, trivial⟩⟩⟩, ⟨(fun y h => by injection h with h; subst h; exact fo23), ⟨(fun y h => by injection h with h; subst h; exact fo39), ⟨(fun y h => by injection h with h; subst h; exact fo71), trivial, trivial⟩, ⟨(fun y h => by injection h with h; subst h; exact fo103), trivial, trivial⟩⟩, ⟨(fun y h => by injection h with h; subst h; exact fo55), ⟨(fun y h => by injection h with h; subst h; exact fo87), trivial, trivial⟩, ⟨(fun y h => by injection h with h; subst h; exact fo119), trivial, trivial⟩⟩⟩⟩, ⟨(fun y h => by injection h with h; subst h; exact fo11), ⟨(fun y h => by injection h with h; subst h; exact fo19), ⟨(fun y h => by injection h with h; subst h; exact fo35), ⟨(fun y h => by injection h with h; subst h; exact fo67), trivial, trivial⟩, ⟨(fun y h => by injection h with h; subst h; exact fo99), trivial, trivial⟩⟩, ⟨(fun y h => by injection h with h; subst h; exact fo51), ⟨(fun y h => by injection h with h; subst h; exact fo83), trivial, trivial⟩, ⟨(fun y h => by injection h with h; subst h; exact fo115), trivial, trivial⟩⟩⟩, ⟨(fun y h => by injection h with h; subst h; exact fo27), ⟨(fun y h => by injection h with h; subst h; exact fo43), ⟨(fun y h => by injection h with h; subst h; exact fo75), trivial, trivial⟩, ⟨(fun y h => by injection h with h; subst h; exact fo107), trivial, trivial⟩⟩, ⟨(fun y h => by injection h with h; subst h; exact fo59), ⟨(fun y h => by injection h with h; subst h; exact fo91), trivial, trivial⟩, ⟨(fun y h => by injection h with h; subst h; exact fo123), trivial, trivial⟩⟩⟩⟩⟩, ⟨(fun y h => by injection h with h; subst h; exact fo5), ⟨(fun y h => by injection h with h; subst h; exact fo9), ⟨(fun y h => by injection h with h; subst h; exact fo17), ⟨(fun y h => by injection h with h; subst h; exact fo33), ⟨(fun y h => by injection h with h; subst h; exact fo65), ⟨(fun y h => by injection h with h; subst h; exact fo129), trivial, trivial⟩, trivial⟩, ⟨(fun y h => by injection h with h; subst h; exact fo97), trivial, trivial⟩⟩, ⟨(fun y h => by injection h with h; subst h; exact fo49), ⟨(fun y h => by injection h with h; subst h; exact fo81), trivial, trivial⟩, ⟨(fun y h => by injection h with h; subst h; exact fo113), trivial, trivial⟩⟩⟩, ⟨(fun y h => by injection h with h; subst h; exact fo25), ⟨(fun y h => by injection h with h; subst h; exact fo41), ⟨(fun y h => by injection h with h; subst h; exact fo73), trivial, trivial⟩, ⟨(fun y h => by injection h with h; subst h; exact fo105), trivial, trivial⟩⟩, ⟨(fun y h => by injection h with h; subst h; exact fo57), ⟨(fun y h => by injection h with h; subst h; exact fo89), trivial, trivial⟩, ⟨(fun y h => by injection h with h; subst h; exact fo121), trivial, trivial⟩⟩⟩⟩, ⟨(fun y h => by injection h with h; subst h; exact fo13), ⟨(fun y h => by injection h with h; subst h; exact fo21), ⟨(fun y h => by injection h with h; subst h; exact fo37), ⟨(fun y h => by injection h with h; subst h; exact fo69), trivial, trivial⟩, ⟨(fun y h => by injection h with h; subst h; exact fo101), trivial, trivial⟩⟩, ⟨(fun y h => by injection h with h; subst h; exact fo53), ⟨(fun y h => by injection h with h; subst h; exact fo85), trivial, trivial⟩, ⟨(fun y h => by injection h with h; subst h; exact fo117), trivial, trivial⟩⟩⟩, ⟨(fun y h => by injection h with h; subst h; exact fo29), ⟨(fun y h => by injection h with h; subst h; exact fo45), ⟨(fun y h => by injection h with h; subst h; exact fo77), trivial, trivial⟩, ⟨(fun y h => by injection h with h; subst h; exact fo109), trivial, trivial⟩⟩, ⟨(fun y h => by injection h with h; subst h; exact fo61), ⟨(fun y h => by injection h with h; subst h; exact fo93), trivial, trivial⟩, ⟨(fun y h => by injection h with h; subst h; exact fo125), trivial, trivial⟩⟩⟩⟩⟩⟩, ⟨(fun y h => by cases h), ⟨(fun y h => by injection h with h; subst h; exact fo4), ⟨(fun y h => by injection h with h; subst h; exact fo8), ⟨(fun y h => by injection h with h; subst h; exact fo16), ⟨(fun y h => by injection h with h; subst h; exact fo32), ⟨(fun y h => by injection h with h; subst h; exact fo64), ⟨(fun y h => by injection h with h; subst h; exact fo128), trivial, trivial⟩, trivial⟩, ⟨(fun y h => by injection h with h; subst h; exact fo96), trivial, trivial⟩⟩, ⟨(fun y h => by injection h with h; subst h; exact fo48), ⟨(fun y h => by injection h with h; subst h; exact fo80), trivial, trivial⟩, ⟨(fun y h => by injection h with h; subst h; exact fo112), trivial, trivial⟩⟩⟩, ⟨(fun y h => by injection h with h; subst h; exact fo24), ⟨(fun y h => by injection h with h; subst h; exact fo40), ⟨(fun y h => by injection h with h; subst h; exact fo72), trivial, trivial⟩, ⟨(fun y h => by injection h with h; subst h; exact fo104), trivial, trivial⟩⟩, ⟨(fun y h => by injection h with h; subst h; exact fo56), ⟨(fun y h => by injection h with h; subst h; exact fo88), trivial, trivial⟩, ⟨(fun y h => by injection h with h; subst h; exact fo120), trivial, trivial⟩⟩⟩⟩, ⟨(fun y h => by injection h with h; subst h; exact fo12), ⟨(fun y h => by injection h with h; subst h; exact fo20), ⟨(fun y h => by injection h with h; subst h; exact fo36), ⟨(fun y h => by injection h with h; subst h; exact fo68), trivial, trivial⟩, ⟨(fun y h => by injection h with h; subst h; exact fo100), trivial, trivial⟩⟩, ⟨(fun y h => by injection h with h; subst h; exact fo52), ⟨(fun y h => by injection h with h; subst h; exact fo84), trivial, trivial⟩, ⟨(fun y h => by injection h with h; subst h; exact fo116), trivial, trivial⟩⟩⟩, ⟨(fun y h => by injection h with h; subst h; exact fo28), ⟨(fun y h => by injection h with h; subst h; exact fo44), ⟨(fun y h => by injection h with h; subst h; exact fo76), trivial, trivial⟩, ⟨(fun y h => by injection h with h; subst h; exact fo108), trivial, trivial⟩⟩, ⟨(fun y h => by injection h with h; subst h; exact fo60), ⟨(fun y h => by injection h with h; subst h; exact fo92), trivial, trivial⟩, ⟨(fun y h => by injection h with h; subst h; exact fo124), trivial, trivial⟩⟩⟩⟩⟩, ⟨(fun y h => by injection h with h; subst h; exact fo6), ⟨(fun y h => by injection h with h; subst h; exact fo10), ⟨(fun y h => by injection h with h; subst h; exact fo18), ⟨(fun y h => by injection h with h; subst h; exact fo34), ⟨(fun y h => by injection h with h; subst h; exact fo66), trivial, trivial⟩, ⟨(fun y h => by injection h with h; subst h; exact fo98), trivial, trivial⟩⟩, ⟨(fun y h => by injection h with h; subst h; exact fo50), ⟨(fun y h => by injection h with h; subst h; exact fo82), trivial, trivial⟩, ⟨(fun y h => by injection h with h; subst h; exact fo114), trivial, trivial⟩⟩⟩, ⟨(fun y h => by injection h with h; subst h; exact fo26), ⟨(fun y h => by injection h with h; subst h; exact fo42), ⟨(fun y h => by injection h with h; subst h; exact fo74), trivial, trivial⟩, ⟨(fun y h => by injection h with h; subst h; exact fo106), trivial, trivial⟩⟩, ⟨(fun y h => by injection h with h; subst h; exact fo58), ⟨(fun y h => by injection h with h; subst h; exact fo90), trivial, trivial⟩, ⟨(fun y h => by injection h with h; subst h; exact fo122), trivial, trivial⟩⟩⟩⟩, ⟨(fun y h => by injection h with h; subst h; exact fo14), ⟨(fun y h => by injection h with h; subst h; exact fo22), ⟨(fun y h => by injection h with h; subst h; exact fo38), ⟨(fun y h => by injection h with h; subst h; exact fo70), trivial, trivial⟩, ⟨(fun y h => by injection h with h; subst h; exact fo102), trivial, trivial⟩⟩, ⟨(fun y h => by injection h with h; subst h; exact fo54), ⟨(fun y h => by injection h with h; subst h; exact fo86), trivial, trivial⟩, ⟨(fun y h => by injection h with h; subst h; exact fo118), trivial, trivial⟩⟩⟩, ⟨(fun y h => by injection h with h; subst h; exact fo30), ⟨(fun y h => by injection h with h; subst h; exact fo46), ⟨(fun y h => by injection h with h; subst h; exact fo78), trivial, trivial⟩, ⟨(fun y h => by injection h with h; subst h; exact fo110), trivial, trivial⟩⟩, ⟨(fun y h => by injection h with h; subst h; exact fo62), ⟨(fun y h => by injection h with h; subst h; exact fo94), trivial, trivial⟩, ⟨(fun y h => by injection h with h; subst h; exact fo126), trivial, trivial⟩⟩⟩⟩⟩⟩⟩
theorem lookOK (a : TypeId → Option Tmp → Bool) (b : FuncId → Bool) : LookOK ⟨prog, tyT, fnT, a, b⟩ := by
  refine ⟨fun t y h => ?_, fun g y h => ?_, by kernel_rfl⟩
  · unfold Look.tyOf at h
    split at h
    · rename_i y' hy; injection h with h; subst h
      exact AllB.get tyT _ tyAll t _ hy
    · cases h
  · unfold Look.fnOf at h
    split at h
    · rename_i y' hy; injection h with h; subst h
      exact AllB.get fnT _ fnAll g _ hy
    · cases h
end Go.Lg
end
