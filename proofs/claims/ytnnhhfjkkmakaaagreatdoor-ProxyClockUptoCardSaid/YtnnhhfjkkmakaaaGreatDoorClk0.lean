import Derived.Test.YtnnhhfjkkmakaaaGreatDoorRun3
import Derived.Test.YtnnhhfjkkmakaaaGreatDoorEvE
/- the clock: Proxy.Do of a reading, in the heap that the readings before have left -/
set_option linter.unusedSectionVars false
set_option linter.unusedVariables false
set_option linter.unusedSimpArgs false
namespace Go.Proofs.YtnnhhfjkkmakaaaGreatDoor.clk
open Go hiding Fn
open Ev tab
def crHp : CR → Hp
  | .ret _ h => h
  | _ => h0
theorem yes_hp {r : CR} (h : yes r = true) : r = .ret (.bo true) (crHp r) := by
  obtain ⟨hp, e⟩ := yes_ret h
  rw [e]; rfl
/-- what the closed run leaves -/
def hp3 : Hp := crHp (runF (callF F11 20000 200) 20000 c3 [] h0)
def Fk : Nat → Option Ev.Fn := fun i => bif Nat.beq i 3 then some (memoFn c3 (.bo true) hp3) else F2 i
theorem tableK : Table Tryz.prog Fk mds := Table.memo table11 table2 (f := 3) (fn := c3) (by rfl) rfl (yes_hp runs3)
theorem memo_call {F : Nat → Option Ev.Fn} {f : Nat} {fn : Ev.Fn} {h : Hp} (hF : F f = some (memoFn fn (.bo true) h)) (h1 : fn.md = .pure) (h2 : fn.ps = []) (h3 : fn.rs = [.c .one]) (hp : Hp) : EvC F false f [] hp (.ret (.bo true) hp) := ⟨1, fun L n _ hn => by
  obtain ⟨m, rfl⟩ : ∃ m, n = m + 1 := ⟨n - 1, by omega⟩
  obtain ⟨ps, rs, md, res, body⟩ := fn
  simp only at h1 h2 h3
  subst h1; subst h2; subst h3
  simp only [callF, hF]
  rfl⟩
theorem hF3 : Fk 3 = some (memoFn c3 (.bo true) hp3) := rfl
theorem cr_ok (hp : Hp) : EvC Fk false 3 [] hp (.ret (.bo true) hp) := memo_call hF3 rfl rfl rfl hp
abbrev cfgV : V := .ag [.it .i64 10000, .fl .f64 4591870180066957722, .it .i64 2, .it .i64 65535, .it .i64 65536, .it .i64 4, .it .i64 1]
def stat : V := (.vs 2 [[(.st [58, 97, 117, 116, 104, 111, 114, 105, 116, 121]), (.st [])], [(.st [58, 109, 101, 116, 104, 111, 100]), (.st [71, 69, 84])], [(.st [58,
  109, 101, 116, 104, 111, 100]), (.st [80, 79, 83, 84])], [(.st [58, 112, 97, 116, 104]), (.st [47])], [(.st [58, 112, 97, 116, 104]), (.st [47, 105,
  110, 100, 101, 120, 46, 104, 116, 109, 108])], [(.st [58, 115, 99, 104, 101, 109, 101]), (.st [104, 116, 116, 112])], [(.st [58, 115, 99, 104, 101,
  109, 101]), (.st [104, 116, 116, 112, 115])], [(.st [58, 115, 116, 97, 116, 117, 115]), (.st [50, 48, 48])], [(.st [58, 115, 116, 97, 116, 117, 115]),
  (.st [50, 48, 52])], [(.st [58, 115, 116, 97, 116, 117, 115]), (.st [50, 48, 54])], [(.st [58, 115, 116, 97, 116, 117, 115]), (.st [51, 48, 52])],
  [(.st [58, 115, 116, 97, 116, 117, 115]), (.st [52, 48, 48])], [(.st [58, 115, 116, 97, 116, 117, 115]), (.st [52, 48, 52])], [(.st [58, 115, 116, 97,
  116, 117, 115]), (.st [53, 48, 48])], [(.st [97, 99, 99, 101, 112, 116, 45, 99, 104, 97, 114, 115, 101, 116]), (.st [])], [(.st [97, 99, 99, 101, 112,
  116, 45, 101, 110, 99, 111, 100, 105, 110, 103]), (.st [103, 122, 105, 112, 44, 32, 100, 101, 102, 108, 97, 116, 101])], [(.st [97, 99, 99, 101, 112,
  116, 45, 108, 97, 110, 103, 117, 97, 103, 101]), (.st [])], [(.st [97, 99, 99, 101, 112, 116, 45, 114, 97, 110, 103, 101, 115]), (.st [])], [(.st [97,
  99, 99, 101, 112, 116]), (.st [])], [(.st [97, 99, 99, 101, 115, 115, 45, 99, 111, 110, 116, 114, 111, 108, 45, 97, 108, 108, 111, 119, 45, 111, 114,
  105, 103, 105, 110]), (.st [])], [(.st [97, 103, 101]), (.st [])], [(.st [97, 108, 108, 111, 119]), (.st [])], [(.st [97, 117, 116, 104, 111, 114,
  105, 122, 97, 116, 105, 111, 110]), (.st [])], [(.st [99, 97, 99, 104, 101, 45, 99, 111, 110, 116, 114, 111, 108]), (.st [])], [(.st [99, 111, 110,
  116, 101, 110, 116, 45, 100, 105, 115, 112, 111, 115, 105, 116, 105, 111, 110]), (.st [])], [(.st [99, 111, 110, 116, 101, 110, 116, 45, 101, 110, 99,
  111, 100, 105, 110, 103]), (.st [])], [(.st [99, 111, 110, 116, 101, 110, 116, 45, 108, 97, 110, 103, 117, 97, 103, 101]), (.st [])], [(.st [99, 111,
  110, 116, 101, 110, 116, 45, 108, 101, 110, 103, 116, 104]), (.st [])], [(.st [99, 111, 110, 116, 101, 110, 116, 45, 108, 111, 99, 97, 116, 105, 111,
  110]), (.st [])], [(.st [99, 111, 110, 116, 101, 110, 116, 45, 114, 97, 110, 103, 101]), (.st [])], [(.st [99, 111, 110, 116, 101, 110, 116, 45, 116,
  121, 112, 101]), (.st [])], [(.st [99, 111, 111, 107, 105, 101]), (.st [])], [(.st [100, 97, 116, 101]), (.st [])], [(.st [101, 116, 97, 103]),
  (.st [])], [(.st [101, 120, 112, 101, 99, 116]), (.st [])], [(.st [101, 120, 112, 105, 114, 101, 115]), (.st [])], [(.st [102, 114, 111, 109]),
  (.st [])], [(.st [104, 111, 115, 116]), (.st [])], [(.st [105, 102, 45, 109, 97, 116, 99, 104]), (.st [])], [(.st [105, 102, 45, 109, 111, 100, 105,
  102, 105, 101, 100, 45, 115, 105, 110, 99, 101]), (.st [])], [(.st [105, 102, 45, 110, 111, 110, 101, 45, 109, 97, 116, 99, 104]), (.st [])],
  [(.st [105, 102, 45, 114, 97, 110, 103, 101]), (.st [])], [(.st [105, 102, 45, 117, 110, 109, 111, 100, 105, 102, 105, 101, 100, 45, 115, 105, 110,
  99, 101]), (.st [])], [(.st [108, 97, 115, 116, 45, 109, 111, 100, 105, 102, 105, 101, 100]), (.st [])], [(.st [108, 105, 110, 107]), (.st [])],
  [(.st [108, 111, 99, 97, 116, 105, 111, 110]), (.st [])], [(.st [109, 97, 120, 45, 102, 111, 114, 119, 97, 114, 100, 115]), (.st [])], [(.st [112,
  114, 111, 120, 121, 45, 97, 117, 116, 104, 101, 110, 116, 105, 99, 97, 116, 101]), (.st [])], [(.st [112, 114, 111, 120, 121, 45, 97, 117, 116, 104,
  111, 114, 105, 122, 97, 116, 105, 111, 110]), (.st [])], [(.st [114, 97, 110, 103, 101]), (.st [])], [(.st [114, 101, 102, 101, 114, 101, 114]),
  (.st [])], [(.st [114, 101, 102, 114, 101, 115, 104]), (.st [])], [(.st [114, 101, 116, 114, 121, 45, 97, 102, 116, 101, 114]), (.st [])], [(.st [115,
  101, 114, 118, 101, 114]), (.st [])], [(.st [115, 101, 116, 45, 99, 111, 111, 107, 105, 101]), (.st [])], [(.st [115, 116, 114, 105, 99, 116, 45, 116,
  114, 97, 110, 115, 112, 111, 114, 116, 45, 115, 101, 99, 117, 114, 105, 116, 121]), (.st [])], [(.st [116, 114, 97, 110, 115, 102, 101, 114, 45, 101,
  110, 99, 111, 100, 105, 110, 103]), (.st [])], [(.st [117, 115, 101, 114, 45, 97, 103, 101, 110, 116]), (.st [])], [(.st [118, 97, 114, 121]),
  (.st [])], [(.st [118, 105, 97]), (.st [])], [(.st [119, 119, 119, 45, 97, 117, 116, 104, 101, 110, 116, 105, 99, 97, 116, 101]), (.st [])]])
def b0 : Bk := ⟨26, false, [[(.bo true), (.it .i64 2), (.it .i64 65535), (.it .i64 65536), (.it .i64 4096), (.it .i64 2147483647), (.it .i64 65535), (.it .i64 16384), (.it .i64 2147483647), (.pt 1 0 0), (.pt 3 0 0), (.pt 5 0 0), (.hs 6 0 27), (.it .i64 65535), (.it .i64 65535), .ns, (.it .i64 0), (.it .i64 1), .ns, (.it .i64 0), (.bo false), .ns, (.bo false), (.bo false), (.bo false), .ns]]⟩
def b1 : Bk := ⟨6, false, [[(.it .i64 16384), (.st [80, 82, 73, 32, 42, 32, 72, 84, 84, 80, 47, 50, 46, 48, 13, 10, 13, 10, 83, 77, 13, 10, 13, 10]), .ns, (.it .i64 0), (.it .i64 0), (.it .i64 0)]]⟩
def b2 : Bk := ⟨4, false, [[.ns, stat, (.it .i64 0), (.it .i64 4096)]]⟩
def b3 : Bk := ⟨4, false, [[(.pt 2 0 0), (.it .i64 4096), (.it .i64 65536), (.bo false)]]⟩
def b4 : Bk := ⟨4, false, [[.ns, stat, (.it .i64 0), (.it .i64 4096)]]⟩
def b5 : Bk := ⟨3, false, [[(.pt 4 0 0), (.bo true), (.it .i64 0)]]⟩
def b6 : Bk := ⟨1, false, [[(.it .u8 0)], [(.it .u8 0)], [(.it .u8 18)], [(.it .u8 4)], [(.it .u8 0)], [(.it .u8 0)], [(.it .u8 0)], [(.it .u8 0)], [(.it .u8 0)], [(.it .u8 0)], [(.it .u8 3)], [(.it .u8 0)], [(.it .u8 0)], [(.it .u8 0)], [(.it .u8 2)], [(.it .u8 0)], [(.it .u8 4)], [(.it .u8 0)], [(.it .u8 0)], [(.it .u8 255)], [(.it .u8 255)], [(.it .u8 0)], [(.it .u8 6)], [(.it .u8 0)], [(.it .u8 1)], [(.it .u8 0)], [(.it .u8 0)]]⟩
def b7 : Bk := ⟨3, false, [[.ns, (.it .i64 0), (.it .i64 10000)]]⟩
def b8 (w : Int) : Bk := ⟨27, false, [[(.it .i64 10000), (.fl .f64 4591870180066957722), (.it .i64 2), (.it .i64 65535), (.it .i64 65536), (.it .i64 4), (.it .i64 1), .np, .np, .np, .np, .np, .np, .np, .np, .np, .np, .np, .np, .np, .np, .np, .np, (.pt 7 0 0), (.it .i64 w), .ns, .ns]]⟩
def bq : Bk := ⟨1, false, [[.pt 8 0 0]]⟩
def t0 : Tr := .n (some b7) .e .e
def t1 : Tr := .n (some b3) t0 .e
def t2 : Tr := .n (some b5) .e .e
def t3 : Tr := .n (some b1) t1 t2
def t4 (w : Int) : Tr := .n (some (b8 w)) .e .e
def t5 (w : Int) : Tr := .n (some b4) (t4 w) .e
def t6 : Tr := .n (some b6) .e .e
def t7 (w : Int) : Tr := .n (some b2) (t5 w) t6
def t8 (w : Int) : Tr := .n (some b0) t3 (t7 w)
def t9 : Tr := .n (some bq) .e .e
def t10 : Tr := .n (some b5) t9 .e
def t11 : Tr := .n (some b1) t1 t10
def t12 (w : Int) : Tr := .n (some b0) t11 (t7 w)
def t13 : Tr := .n (some b6) t9 .e
def t14 (w : Int) : Tr := .n (some b2) (t5 w) t13
def t15 (w : Int) : Tr := .n (some b0) t11 (t14 w)
def t16 : Tr := .n (some b3) t0 t9
def t17 : Tr := .n (some b1) t16 t10
def t18 (w : Int) : Tr := .n (some b0) t17 (t14 w)
def t19 (w : Int) : Tr := .n (some b4) (t4 w) t9
def t20 (w : Int) : Tr := .n (some b2) (t19 w) t13
def t21 (w : Int) : Tr := .n (some b0) t17 (t20 w)
def t22 : Tr := .n (some b5) t9 t9
def t23 : Tr := .n (some b1) t16 t22
def t24 (w : Int) : Tr := .n (some b0) t23 (t20 w)
def t25 : Tr := .n (some b6) t9 t9
def t26 (w : Int) : Tr := .n (some b2) (t19 w) t25
def t27 (w : Int) : Tr := .n (some b0) t23 (t26 w)
def t28 : Tr := .n (some b7) t9 .e
def t29 : Tr := .n (some b3) t28 t9
def t30 : Tr := .n (some b1) t29 t22
def t31 (w : Int) : Tr := .n (some b0) t30 (t26 w)
def t32 (w : Int) : Tr := .n (some (b8 w)) t9 .e
def t33 (w : Int) : Tr := .n (some b4) (t32 w) t9
def t34 (w : Int) : Tr := .n (some b2) (t33 w) t25
def t35 (w : Int) : Tr := .n (some b0) t30 (t34 w)
def t36 : Tr := .n (some bq) t9 .e
def t37 : Tr := .n (some b5) t36 t9
def t38 : Tr := .n (some b1) t29 t37
def t39 (w : Int) : Tr := .n (some b0) t38 (t34 w)
def t40 : Tr := .n (some b6) t36 t9
def t41 (w : Int) : Tr := .n (some b2) (t33 w) t40
def t42 (w : Int) : Tr := .n (some b0) t38 (t41 w)
def t43 : Tr := .n (some b3) t28 t36
def t44 : Tr := .n (some b1) t43 t37
def t45 (w : Int) : Tr := .n (some b0) t44 (t41 w)
def t46 (w : Int) : Tr := .n (some b4) (t32 w) t36
def t47 (w : Int) : Tr := .n (some b2) (t46 w) t40
def t48 (w : Int) : Tr := .n (some b0) t44 (t47 w)
def t49 : Tr := .n (some b5) t36 t36
def t50 : Tr := .n (some b1) t43 t49
def t51 (w : Int) : Tr := .n (some b0) t50 (t47 w)
def t52 : Tr := .n (some b6) t36 t36
def t53 (w : Int) : Tr := .n (some b2) (t46 w) t52
def t54 (w : Int) : Tr := .n (some b0) t50 (t53 w)
def t55 : Tr := .n (some b7) t9 t9
def t56 : Tr := .n (some b3) t55 t36
def t57 : Tr := .n (some b1) t56 t49
def t58 (w : Int) : Tr := .n (some b0) t57 (t53 w)
def t59 (w : Int) : Tr := .n (some (b8 w)) t9 t9
def t60 (w : Int) : Tr := .n (some b4) (t59 w) t36
def t61 (w : Int) : Tr := .n (some b2) (t60 w) t52
def t62 (w : Int) : Tr := .n (some b0) t57 (t61 w)
def t63 : Tr := .n (some bq) t9 t9
def t64 : Tr := .n (some b5) t63 t36
def t65 : Tr := .n (some b1) t56 t64
def t66 (w : Int) : Tr := .n (some b0) t65 (t61 w)
def t67 : Tr := .n (some b6) t63 t36
def t68 (w : Int) : Tr := .n (some b2) (t60 w) t67
def t69 (w : Int) : Tr := .n (some b0) t65 (t68 w)
def t70 : Tr := .n (some b3) t55 t63
def t71 : Tr := .n (some b1) t70 t64
def t72 (w : Int) : Tr := .n (some b0) t71 (t68 w)
def t73 (w : Int) : Tr := .n (some b4) (t59 w) t63
def t74 (w : Int) : Tr := .n (some b2) (t73 w) t67
def t75 (w : Int) : Tr := .n (some b0) t71 (t74 w)
def t76 : Tr := .n (some b5) t63 t63
def t77 : Tr := .n (some b1) t70 t76
def t78 (w : Int) : Tr := .n (some b0) t77 (t74 w)
def t79 : Tr := .n (some b6) t63 t63
def t80 (w : Int) : Tr := .n (some b2) (t73 w) t79
def t81 (w : Int) : Tr := .n (some b0) t77 (t80 w)
def t82 : Tr := .n (some b7) t36 t9
def t83 : Tr := .n (some b3) t82 t63
def t84 : Tr := .n (some b1) t83 t76
def t85 (w : Int) : Tr := .n (some b0) t84 (t80 w)
def t86 (w : Int) : Tr := .n (some (b8 w)) t36 t9
def t87 (w : Int) : Tr := .n (some b4) (t86 w) t63
def t88 (w : Int) : Tr := .n (some b2) (t87 w) t79
def t89 (w : Int) : Tr := .n (some b0) t84 (t88 w)
def t90 : Tr := .n (some bq) t36 t9
def t91 : Tr := .n (some b5) t90 t63
def t92 : Tr := .n (some b1) t83 t91
def t93 (w : Int) : Tr := .n (some b0) t92 (t88 w)
def t94 : Tr := .n (some b6) t90 t63
def t95 (w : Int) : Tr := .n (some b2) (t87 w) t94
def t96 (w : Int) : Tr := .n (some b0) t92 (t95 w)
def t97 : Tr := .n (some b3) t82 t90
def t98 : Tr := .n (some b1) t97 t91
def t99 (w : Int) : Tr := .n (some b0) t98 (t95 w)
def t100 (w : Int) : Tr := .n (some b4) (t86 w) t90
def t101 (w : Int) : Tr := .n (some b2) (t100 w) t94
def t102 (w : Int) : Tr := .n (some b0) t98 (t101 w)
def t103 : Tr := .n (some b5) t90 t90
def t104 : Tr := .n (some b1) t97 t103
def t105 (w : Int) : Tr := .n (some b0) t104 (t101 w)
def t106 : Tr := .n (some b6) t90 t90
def t107 (w : Int) : Tr := .n (some b2) (t100 w) t106
def t108 (w : Int) : Tr := .n (some b0) t104 (t107 w)
def t109 : Tr := .n (some b7) t36 t36
def t110 : Tr := .n (some b3) t109 t90
def t111 : Tr := .n (some b1) t110 t103
def t112 (w : Int) : Tr := .n (some b0) t111 (t107 w)
def t113 (w : Int) : Tr := .n (some (b8 w)) t36 t36
def t114 (w : Int) : Tr := .n (some b4) (t113 w) t90
def t115 (w : Int) : Tr := .n (some b2) (t114 w) t106
def t116 (w : Int) : Tr := .n (some b0) t111 (t115 w)
def t117 : Tr := .n (some bq) t36 t36
def t118 : Tr := .n (some b5) t117 t90
def t119 : Tr := .n (some b1) t110 t118
def t120 (w : Int) : Tr := .n (some b0) t119 (t115 w)
def t121 : Tr := .n (some b6) t117 t90
def t122 (w : Int) : Tr := .n (some b2) (t114 w) t121
def t123 (w : Int) : Tr := .n (some b0) t119 (t122 w)
def t124 : Tr := .n (some b3) t109 t117
def t125 : Tr := .n (some b1) t124 t118
def t126 (w : Int) : Tr := .n (some b0) t125 (t122 w)
def t127 (w : Int) : Tr := .n (some b4) (t113 w) t117
def t128 (w : Int) : Tr := .n (some b2) (t127 w) t121
def t129 (w : Int) : Tr := .n (some b0) t125 (t128 w)
def t130 : Tr := .n (some b5) t117 t117
def t131 : Tr := .n (some b1) t124 t130
def t132 (w : Int) : Tr := .n (some b0) t131 (t128 w)
def t133 : Tr := .n (some b6) t117 t117
def t134 (w : Int) : Tr := .n (some b2) (t127 w) t133
def t135 (w : Int) : Tr := .n (some b0) t131 (t134 w)
def t136 : Tr := .n (some b7) t63 t36
def t137 : Tr := .n (some b3) t136 t117
def t138 : Tr := .n (some b1) t137 t130
def t139 (w : Int) : Tr := .n (some b0) t138 (t134 w)
def t140 (w : Int) : Tr := .n (some (b8 w)) t63 t36
def t141 (w : Int) : Tr := .n (some b4) (t140 w) t117
def t142 (w : Int) : Tr := .n (some b2) (t141 w) t133
def t143 (w : Int) : Tr := .n (some b0) t138 (t142 w)
def t144 : Tr := .n (some bq) t63 t36
def t145 : Tr := .n (some b5) t144 t117
def t146 : Tr := .n (some b1) t137 t145
def t147 (w : Int) : Tr := .n (some b0) t146 (t142 w)
def t148 : Tr := .n (some b6) t144 t117
def t149 (w : Int) : Tr := .n (some b2) (t141 w) t148
def t150 (w : Int) : Tr := .n (some b0) t146 (t149 w)
def t151 : Tr := .n (some b3) t136 t144
def t152 : Tr := .n (some b1) t151 t145
def t153 (w : Int) : Tr := .n (some b0) t152 (t149 w)
def t154 (w : Int) : Tr := .n (some b4) (t140 w) t144
def t155 (w : Int) : Tr := .n (some b2) (t154 w) t148
def t156 (w : Int) : Tr := .n (some b0) t152 (t155 w)
def t157 : Tr := .n (some b5) t144 t144
def t158 : Tr := .n (some b1) t151 t157
def t159 (w : Int) : Tr := .n (some b0) t158 (t155 w)
def t160 : Tr := .n (some b6) t144 t144
def t161 (w : Int) : Tr := .n (some b2) (t154 w) t160
def t162 (w : Int) : Tr := .n (some b0) t158 (t161 w)
def t163 : Tr := .n (some b7) t63 t63
def t164 : Tr := .n (some b3) t163 t144
def t165 : Tr := .n (some b1) t164 t157
def t166 (w : Int) : Tr := .n (some b0) t165 (t161 w)
def t167 (w : Int) : Tr := .n (some (b8 w)) t63 t63
def t168 (w : Int) : Tr := .n (some b4) (t167 w) t144
def t169 (w : Int) : Tr := .n (some b2) (t168 w) t160
def t170 (w : Int) : Tr := .n (some b0) t165 (t169 w)
def t171 : Tr := .n (some bq) t63 t63
def t172 : Tr := .n (some b5) t171 t144
def t173 : Tr := .n (some b1) t164 t172
def t174 (w : Int) : Tr := .n (some b0) t173 (t169 w)
def t175 : Tr := .n (some b6) t171 t144
def t176 (w : Int) : Tr := .n (some b2) (t168 w) t175
def t177 (w : Int) : Tr := .n (some b0) t173 (t176 w)
def H (i : Nat) (w : Int) : Hp := match i with
  | 0 => ⟨9, 0, (t8 w)⟩
  | 1 => ⟨10, 0, (t12 w)⟩
  | 2 => ⟨11, 0, (t15 w)⟩
  | 3 => ⟨12, 0, (t18 w)⟩
  | 4 => ⟨13, 0, (t21 w)⟩
  | 5 => ⟨14, 0, (t24 w)⟩
  | 6 => ⟨15, 0, (t27 w)⟩
  | 7 => ⟨16, 0, (t31 w)⟩
  | 8 => ⟨17, 0, (t35 w)⟩
  | 9 => ⟨18, 0, (t39 w)⟩
  | 10 => ⟨19, 0, (t42 w)⟩
  | 11 => ⟨20, 0, (t45 w)⟩
  | 12 => ⟨21, 0, (t48 w)⟩
  | 13 => ⟨22, 0, (t51 w)⟩
  | 14 => ⟨23, 0, (t54 w)⟩
  | 15 => ⟨24, 0, (t58 w)⟩
  | 16 => ⟨25, 0, (t62 w)⟩
  | 17 => ⟨26, 0, (t66 w)⟩
  | 18 => ⟨27, 0, (t69 w)⟩
  | 19 => ⟨28, 0, (t72 w)⟩
  | 20 => ⟨29, 0, (t75 w)⟩
  | 21 => ⟨30, 0, (t78 w)⟩
  | 22 => ⟨31, 0, (t81 w)⟩
  | 23 => ⟨32, 0, (t85 w)⟩
  | 24 => ⟨33, 0, (t89 w)⟩
  | 25 => ⟨34, 0, (t93 w)⟩
  | 26 => ⟨35, 0, (t96 w)⟩
  | 27 => ⟨36, 0, (t99 w)⟩
  | 28 => ⟨37, 0, (t102 w)⟩
  | 29 => ⟨38, 0, (t105 w)⟩
  | 30 => ⟨39, 0, (t108 w)⟩
  | 31 => ⟨40, 0, (t112 w)⟩
  | 32 => ⟨41, 0, (t116 w)⟩
  | 33 => ⟨42, 0, (t120 w)⟩
  | 34 => ⟨43, 0, (t123 w)⟩
  | 35 => ⟨44, 0, (t126 w)⟩
  | 36 => ⟨45, 0, (t129 w)⟩
  | 37 => ⟨46, 0, (t132 w)⟩
  | 38 => ⟨47, 0, (t135 w)⟩
  | 39 => ⟨48, 0, (t139 w)⟩
  | 40 => ⟨49, 0, (t143 w)⟩
  | 41 => ⟨50, 0, (t147 w)⟩
  | 42 => ⟨51, 0, (t150 w)⟩
  | 43 => ⟨52, 0, (t153 w)⟩
  | 44 => ⟨53, 0, (t156 w)⟩
  | 45 => ⟨54, 0, (t159 w)⟩
  | 46 => ⟨55, 0, (t162 w)⟩
  | 47 => ⟨56, 0, (t166 w)⟩
  | 48 => ⟨57, 0, (t170 w)⟩
  | 49 => ⟨58, 0, (t174 w)⟩
  | 50 => ⟨59, 0, (t177 w)⟩
  | _ => h0
def mx (a b : Int) : Int := bif ilt a b then b else a
def mn (a b : Int) : Int := bif ilt b a then b else a
/-- the clock behind a reading -/
def pm (w n : Int) : Int := mn (mx w n) 2147483647
abbrev done : V := .ag [.bo true, .ns, .ns]
abbrev act (n : Int) : V := .ag [.it .i64 8, .it .i64 0, .it .i64 n, .ns]
theorem dk0 (N M : Nat) (w n : Int) : callF Fk (N + 400) (M + 20) false 11 [.pt 8 0 0, act n] (H 0 w) = .ret done (H 1 (pm w n)) ∧ callF Fk (N + 400) (M + 20) false 15 [.pt 8 0 0] (H 1 w) = .ret (.it .i64 w) (H 1 w) := ⟨by kernel_rfl, by kernel_rfl⟩
theorem dk1 (N M : Nat) (w n : Int) : callF Fk (N + 400) (M + 20) false 11 [.pt 8 0 0, act n] (H 1 w) = .ret done (H 2 (pm w n)) ∧ callF Fk (N + 400) (M + 20) false 15 [.pt 8 0 0] (H 2 w) = .ret (.it .i64 w) (H 2 w) := ⟨by kernel_rfl, by kernel_rfl⟩
theorem dk2 (N M : Nat) (w n : Int) : callF Fk (N + 400) (M + 20) false 11 [.pt 8 0 0, act n] (H 2 w) = .ret done (H 3 (pm w n)) ∧ callF Fk (N + 400) (M + 20) false 15 [.pt 8 0 0] (H 3 w) = .ret (.it .i64 w) (H 3 w) := ⟨by kernel_rfl, by kernel_rfl⟩
theorem dk3 (N M : Nat) (w n : Int) : callF Fk (N + 400) (M + 20) false 11 [.pt 8 0 0, act n] (H 3 w) = .ret done (H 4 (pm w n)) ∧ callF Fk (N + 400) (M + 20) false 15 [.pt 8 0 0] (H 4 w) = .ret (.it .i64 w) (H 4 w) := ⟨by kernel_rfl, by kernel_rfl⟩
theorem dk4 (N M : Nat) (w n : Int) : callF Fk (N + 400) (M + 20) false 11 [.pt 8 0 0, act n] (H 4 w) = .ret done (H 5 (pm w n)) ∧ callF Fk (N + 400) (M + 20) false 15 [.pt 8 0 0] (H 5 w) = .ret (.it .i64 w) (H 5 w) := ⟨by kernel_rfl, by kernel_rfl⟩
theorem dk5 (N M : Nat) (w n : Int) : callF Fk (N + 400) (M + 20) false 11 [.pt 8 0 0, act n] (H 5 w) = .ret done (H 6 (pm w n)) ∧ callF Fk (N + 400) (M + 20) false 15 [.pt 8 0 0] (H 6 w) = .ret (.it .i64 w) (H 6 w) := ⟨by kernel_rfl, by kernel_rfl⟩
theorem dk6 (N M : Nat) (w n : Int) : callF Fk (N + 400) (M + 20) false 11 [.pt 8 0 0, act n] (H 6 w) = .ret done (H 7 (pm w n)) ∧ callF Fk (N + 400) (M + 20) false 15 [.pt 8 0 0] (H 7 w) = .ret (.it .i64 w) (H 7 w) := ⟨by kernel_rfl, by kernel_rfl⟩
theorem dk7 (N M : Nat) (w n : Int) : callF Fk (N + 400) (M + 20) false 11 [.pt 8 0 0, act n] (H 7 w) = .ret done (H 8 (pm w n)) ∧ callF Fk (N + 400) (M + 20) false 15 [.pt 8 0 0] (H 8 w) = .ret (.it .i64 w) (H 8 w) := ⟨by kernel_rfl, by kernel_rfl⟩
theorem dk8 (N M : Nat) (w n : Int) : callF Fk (N + 400) (M + 20) false 11 [.pt 8 0 0, act n] (H 8 w) = .ret done (H 9 (pm w n)) ∧ callF Fk (N + 400) (M + 20) false 15 [.pt 8 0 0] (H 9 w) = .ret (.it .i64 w) (H 9 w) := ⟨by kernel_rfl, by kernel_rfl⟩
theorem dk9 (N M : Nat) (w n : Int) : callF Fk (N + 400) (M + 20) false 11 [.pt 8 0 0, act n] (H 9 w) = .ret done (H 10 (pm w n)) ∧ callF Fk (N + 400) (M + 20) false 15 [.pt 8 0 0] (H 10 w) = .ret (.it .i64 w) (H 10 w) := ⟨by kernel_rfl, by kernel_rfl⟩
theorem dk10 (N M : Nat) (w n : Int) : callF Fk (N + 400) (M + 20) false 11 [.pt 8 0 0, act n] (H 10 w) = .ret done (H 11 (pm w n)) ∧ callF Fk (N + 400) (M + 20) false 15 [.pt 8 0 0] (H 11 w) = .ret (.it .i64 w) (H 11 w) := ⟨by kernel_rfl, by kernel_rfl⟩
theorem dk11 (N M : Nat) (w n : Int) : callF Fk (N + 400) (M + 20) false 11 [.pt 8 0 0, act n] (H 11 w) = .ret done (H 12 (pm w n)) ∧ callF Fk (N + 400) (M + 20) false 15 [.pt 8 0 0] (H 12 w) = .ret (.it .i64 w) (H 12 w) := ⟨by kernel_rfl, by kernel_rfl⟩
theorem dk12 (N M : Nat) (w n : Int) : callF Fk (N + 400) (M + 20) false 11 [.pt 8 0 0, act n] (H 12 w) = .ret done (H 13 (pm w n)) ∧ callF Fk (N + 400) (M + 20) false 15 [.pt 8 0 0] (H 13 w) = .ret (.it .i64 w) (H 13 w) := ⟨by kernel_rfl, by kernel_rfl⟩
theorem dk13 (N M : Nat) (w n : Int) : callF Fk (N + 400) (M + 20) false 11 [.pt 8 0 0, act n] (H 13 w) = .ret done (H 14 (pm w n)) ∧ callF Fk (N + 400) (M + 20) false 15 [.pt 8 0 0] (H 14 w) = .ret (.it .i64 w) (H 14 w) := ⟨by kernel_rfl, by kernel_rfl⟩
theorem dk14 (N M : Nat) (w n : Int) : callF Fk (N + 400) (M + 20) false 11 [.pt 8 0 0, act n] (H 14 w) = .ret done (H 15 (pm w n)) ∧ callF Fk (N + 400) (M + 20) false 15 [.pt 8 0 0] (H 15 w) = .ret (.it .i64 w) (H 15 w) := ⟨by kernel_rfl, by kernel_rfl⟩
theorem dk15 (N M : Nat) (w n : Int) : callF Fk (N + 400) (M + 20) false 11 [.pt 8 0 0, act n] (H 15 w) = .ret done (H 16 (pm w n)) ∧ callF Fk (N + 400) (M + 20) false 15 [.pt 8 0 0] (H 16 w) = .ret (.it .i64 w) (H 16 w) := ⟨by kernel_rfl, by kernel_rfl⟩
theorem dk16 (N M : Nat) (w n : Int) : callF Fk (N + 400) (M + 20) false 11 [.pt 8 0 0, act n] (H 16 w) = .ret done (H 17 (pm w n)) ∧ callF Fk (N + 400) (M + 20) false 15 [.pt 8 0 0] (H 17 w) = .ret (.it .i64 w) (H 17 w) := ⟨by kernel_rfl, by kernel_rfl⟩
theorem dk17 (N M : Nat) (w n : Int) : callF Fk (N + 400) (M + 20) false 11 [.pt 8 0 0, act n] (H 17 w) = .ret done (H 18 (pm w n)) ∧ callF Fk (N + 400) (M + 20) false 15 [.pt 8 0 0] (H 18 w) = .ret (.it .i64 w) (H 18 w) := ⟨by kernel_rfl, by kernel_rfl⟩
theorem dk18 (N M : Nat) (w n : Int) : callF Fk (N + 400) (M + 20) false 11 [.pt 8 0 0, act n] (H 18 w) = .ret done (H 19 (pm w n)) ∧ callF Fk (N + 400) (M + 20) false 15 [.pt 8 0 0] (H 19 w) = .ret (.it .i64 w) (H 19 w) := ⟨by kernel_rfl, by kernel_rfl⟩
theorem dk19 (N M : Nat) (w n : Int) : callF Fk (N + 400) (M + 20) false 11 [.pt 8 0 0, act n] (H 19 w) = .ret done (H 20 (pm w n)) ∧ callF Fk (N + 400) (M + 20) false 15 [.pt 8 0 0] (H 20 w) = .ret (.it .i64 w) (H 20 w) := ⟨by kernel_rfl, by kernel_rfl⟩
theorem dk20 (N M : Nat) (w n : Int) : callF Fk (N + 400) (M + 20) false 11 [.pt 8 0 0, act n] (H 20 w) = .ret done (H 21 (pm w n)) ∧ callF Fk (N + 400) (M + 20) false 15 [.pt 8 0 0] (H 21 w) = .ret (.it .i64 w) (H 21 w) := ⟨by kernel_rfl, by kernel_rfl⟩
theorem dk21 (N M : Nat) (w n : Int) : callF Fk (N + 400) (M + 20) false 11 [.pt 8 0 0, act n] (H 21 w) = .ret done (H 22 (pm w n)) ∧ callF Fk (N + 400) (M + 20) false 15 [.pt 8 0 0] (H 22 w) = .ret (.it .i64 w) (H 22 w) := ⟨by kernel_rfl, by kernel_rfl⟩
theorem dk22 (N M : Nat) (w n : Int) : callF Fk (N + 400) (M + 20) false 11 [.pt 8 0 0, act n] (H 22 w) = .ret done (H 23 (pm w n)) ∧ callF Fk (N + 400) (M + 20) false 15 [.pt 8 0 0] (H 23 w) = .ret (.it .i64 w) (H 23 w) := ⟨by kernel_rfl, by kernel_rfl⟩
theorem dk23 (N M : Nat) (w n : Int) : callF Fk (N + 400) (M + 20) false 11 [.pt 8 0 0, act n] (H 23 w) = .ret done (H 24 (pm w n)) ∧ callF Fk (N + 400) (M + 20) false 15 [.pt 8 0 0] (H 24 w) = .ret (.it .i64 w) (H 24 w) := ⟨by kernel_rfl, by kernel_rfl⟩
theorem dk24 (N M : Nat) (w n : Int) : callF Fk (N + 400) (M + 20) false 11 [.pt 8 0 0, act n] (H 24 w) = .ret done (H 25 (pm w n)) ∧ callF Fk (N + 400) (M + 20) false 15 [.pt 8 0 0] (H 25 w) = .ret (.it .i64 w) (H 25 w) := ⟨by kernel_rfl, by kernel_rfl⟩
theorem dk25 (N M : Nat) (w n : Int) : callF Fk (N + 400) (M + 20) false 11 [.pt 8 0 0, act n] (H 25 w) = .ret done (H 26 (pm w n)) ∧ callF Fk (N + 400) (M + 20) false 15 [.pt 8 0 0] (H 26 w) = .ret (.it .i64 w) (H 26 w) := ⟨by kernel_rfl, by kernel_rfl⟩
theorem dk26 (N M : Nat) (w n : Int) : callF Fk (N + 400) (M + 20) false 11 [.pt 8 0 0, act n] (H 26 w) = .ret done (H 27 (pm w n)) ∧ callF Fk (N + 400) (M + 20) false 15 [.pt 8 0 0] (H 27 w) = .ret (.it .i64 w) (H 27 w) := ⟨by kernel_rfl, by kernel_rfl⟩
theorem dk27 (N M : Nat) (w n : Int) : callF Fk (N + 400) (M + 20) false 11 [.pt 8 0 0, act n] (H 27 w) = .ret done (H 28 (pm w n)) ∧ callF Fk (N + 400) (M + 20) false 15 [.pt 8 0 0] (H 28 w) = .ret (.it .i64 w) (H 28 w) := ⟨by kernel_rfl, by kernel_rfl⟩
theorem dk28 (N M : Nat) (w n : Int) : callF Fk (N + 400) (M + 20) false 11 [.pt 8 0 0, act n] (H 28 w) = .ret done (H 29 (pm w n)) ∧ callF Fk (N + 400) (M + 20) false 15 [.pt 8 0 0] (H 29 w) = .ret (.it .i64 w) (H 29 w) := ⟨by kernel_rfl, by kernel_rfl⟩
theorem dk29 (N M : Nat) (w n : Int) : callF Fk (N + 400) (M + 20) false 11 [.pt 8 0 0, act n] (H 29 w) = .ret done (H 30 (pm w n)) ∧ callF Fk (N + 400) (M + 20) false 15 [.pt 8 0 0] (H 30 w) = .ret (.it .i64 w) (H 30 w) := ⟨by kernel_rfl, by kernel_rfl⟩
theorem dk30 (N M : Nat) (w n : Int) : callF Fk (N + 400) (M + 20) false 11 [.pt 8 0 0, act n] (H 30 w) = .ret done (H 31 (pm w n)) ∧ callF Fk (N + 400) (M + 20) false 15 [.pt 8 0 0] (H 31 w) = .ret (.it .i64 w) (H 31 w) := ⟨by kernel_rfl, by kernel_rfl⟩
theorem dk31 (N M : Nat) (w n : Int) : callF Fk (N + 400) (M + 20) false 11 [.pt 8 0 0, act n] (H 31 w) = .ret done (H 32 (pm w n)) ∧ callF Fk (N + 400) (M + 20) false 15 [.pt 8 0 0] (H 32 w) = .ret (.it .i64 w) (H 32 w) := ⟨by kernel_rfl, by kernel_rfl⟩
theorem dk32 (N M : Nat) (w n : Int) : callF Fk (N + 400) (M + 20) false 11 [.pt 8 0 0, act n] (H 32 w) = .ret done (H 33 (pm w n)) ∧ callF Fk (N + 400) (M + 20) false 15 [.pt 8 0 0] (H 33 w) = .ret (.it .i64 w) (H 33 w) := ⟨by kernel_rfl, by kernel_rfl⟩
theorem dk33 (N M : Nat) (w n : Int) : callF Fk (N + 400) (M + 20) false 11 [.pt 8 0 0, act n] (H 33 w) = .ret done (H 34 (pm w n)) ∧ callF Fk (N + 400) (M + 20) false 15 [.pt 8 0 0] (H 34 w) = .ret (.it .i64 w) (H 34 w) := ⟨by kernel_rfl, by kernel_rfl⟩
theorem dk34 (N M : Nat) (w n : Int) : callF Fk (N + 400) (M + 20) false 11 [.pt 8 0 0, act n] (H 34 w) = .ret done (H 35 (pm w n)) ∧ callF Fk (N + 400) (M + 20) false 15 [.pt 8 0 0] (H 35 w) = .ret (.it .i64 w) (H 35 w) := ⟨by kernel_rfl, by kernel_rfl⟩
theorem dk35 (N M : Nat) (w n : Int) : callF Fk (N + 400) (M + 20) false 11 [.pt 8 0 0, act n] (H 35 w) = .ret done (H 36 (pm w n)) ∧ callF Fk (N + 400) (M + 20) false 15 [.pt 8 0 0] (H 36 w) = .ret (.it .i64 w) (H 36 w) := ⟨by kernel_rfl, by kernel_rfl⟩
theorem dk36 (N M : Nat) (w n : Int) : callF Fk (N + 400) (M + 20) false 11 [.pt 8 0 0, act n] (H 36 w) = .ret done (H 37 (pm w n)) ∧ callF Fk (N + 400) (M + 20) false 15 [.pt 8 0 0] (H 37 w) = .ret (.it .i64 w) (H 37 w) := ⟨by kernel_rfl, by kernel_rfl⟩
theorem dk37 (N M : Nat) (w n : Int) : callF Fk (N + 400) (M + 20) false 11 [.pt 8 0 0, act n] (H 37 w) = .ret done (H 38 (pm w n)) ∧ callF Fk (N + 400) (M + 20) false 15 [.pt 8 0 0] (H 38 w) = .ret (.it .i64 w) (H 38 w) := ⟨by kernel_rfl, by kernel_rfl⟩
theorem dk38 (N M : Nat) (w n : Int) : callF Fk (N + 400) (M + 20) false 11 [.pt 8 0 0, act n] (H 38 w) = .ret done (H 39 (pm w n)) ∧ callF Fk (N + 400) (M + 20) false 15 [.pt 8 0 0] (H 39 w) = .ret (.it .i64 w) (H 39 w) := ⟨by kernel_rfl, by kernel_rfl⟩
theorem dk39 (N M : Nat) (w n : Int) : callF Fk (N + 400) (M + 20) false 11 [.pt 8 0 0, act n] (H 39 w) = .ret done (H 40 (pm w n)) ∧ callF Fk (N + 400) (M + 20) false 15 [.pt 8 0 0] (H 40 w) = .ret (.it .i64 w) (H 40 w) := ⟨by kernel_rfl, by kernel_rfl⟩
theorem dk40 (N M : Nat) (w n : Int) : callF Fk (N + 400) (M + 20) false 11 [.pt 8 0 0, act n] (H 40 w) = .ret done (H 41 (pm w n)) ∧ callF Fk (N + 400) (M + 20) false 15 [.pt 8 0 0] (H 41 w) = .ret (.it .i64 w) (H 41 w) := ⟨by kernel_rfl, by kernel_rfl⟩
theorem dk41 (N M : Nat) (w n : Int) : callF Fk (N + 400) (M + 20) false 11 [.pt 8 0 0, act n] (H 41 w) = .ret done (H 42 (pm w n)) ∧ callF Fk (N + 400) (M + 20) false 15 [.pt 8 0 0] (H 42 w) = .ret (.it .i64 w) (H 42 w) := ⟨by kernel_rfl, by kernel_rfl⟩
theorem dk42 (N M : Nat) (w n : Int) : callF Fk (N + 400) (M + 20) false 11 [.pt 8 0 0, act n] (H 42 w) = .ret done (H 43 (pm w n)) ∧ callF Fk (N + 400) (M + 20) false 15 [.pt 8 0 0] (H 43 w) = .ret (.it .i64 w) (H 43 w) := ⟨by kernel_rfl, by kernel_rfl⟩
theorem dk43 (N M : Nat) (w n : Int) : callF Fk (N + 400) (M + 20) false 11 [.pt 8 0 0, act n] (H 43 w) = .ret done (H 44 (pm w n)) ∧ callF Fk (N + 400) (M + 20) false 15 [.pt 8 0 0] (H 44 w) = .ret (.it .i64 w) (H 44 w) := ⟨by kernel_rfl, by kernel_rfl⟩
theorem dk44 (N M : Nat) (w n : Int) : callF Fk (N + 400) (M + 20) false 11 [.pt 8 0 0, act n] (H 44 w) = .ret done (H 45 (pm w n)) ∧ callF Fk (N + 400) (M + 20) false 15 [.pt 8 0 0] (H 45 w) = .ret (.it .i64 w) (H 45 w) := ⟨by kernel_rfl, by kernel_rfl⟩
theorem dk45 (N M : Nat) (w n : Int) : callF Fk (N + 400) (M + 20) false 11 [.pt 8 0 0, act n] (H 45 w) = .ret done (H 46 (pm w n)) ∧ callF Fk (N + 400) (M + 20) false 15 [.pt 8 0 0] (H 46 w) = .ret (.it .i64 w) (H 46 w) := ⟨by kernel_rfl, by kernel_rfl⟩
theorem dk46 (N M : Nat) (w n : Int) : callF Fk (N + 400) (M + 20) false 11 [.pt 8 0 0, act n] (H 46 w) = .ret done (H 47 (pm w n)) ∧ callF Fk (N + 400) (M + 20) false 15 [.pt 8 0 0] (H 47 w) = .ret (.it .i64 w) (H 47 w) := ⟨by kernel_rfl, by kernel_rfl⟩
theorem dk47 (N M : Nat) (w n : Int) : callF Fk (N + 400) (M + 20) false 11 [.pt 8 0 0, act n] (H 47 w) = .ret done (H 48 (pm w n)) ∧ callF Fk (N + 400) (M + 20) false 15 [.pt 8 0 0] (H 48 w) = .ret (.it .i64 w) (H 48 w) := ⟨by kernel_rfl, by kernel_rfl⟩
theorem dk48 (N M : Nat) (w n : Int) : callF Fk (N + 400) (M + 20) false 11 [.pt 8 0 0, act n] (H 48 w) = .ret done (H 49 (pm w n)) ∧ callF Fk (N + 400) (M + 20) false 15 [.pt 8 0 0] (H 49 w) = .ret (.it .i64 w) (H 49 w) := ⟨by kernel_rfl, by kernel_rfl⟩
theorem dk49 (N M : Nat) (w n : Int) : callF Fk (N + 400) (M + 20) false 11 [.pt 8 0 0, act n] (H 49 w) = .ret done (H 50 (pm w n)) ∧ callF Fk (N + 400) (M + 20) false 15 [.pt 8 0 0] (H 50 w) = .ret (.it .i64 w) (H 50 w) := ⟨by kernel_rfl, by kernel_rfl⟩
theorem d_all (N M : Nat) (w n : Int) : ∀ i, i < 50 → callF Fk (N + 400) (M + 20) false 11 [.pt 8 0 0, act n] (H i w) = .ret done (H (i + 1) (pm w n)) ∧ callF Fk (N + 400) (M + 20) false 15 [.pt 8 0 0] (H (i + 1) w) = .ret (.it .i64 w) (H (i + 1) w)
  | 0, _ => dk0 N M w n
  | 1, _ => dk1 N M w n
  | 2, _ => dk2 N M w n
  | 3, _ => dk3 N M w n
  | 4, _ => dk4 N M w n
  | 5, _ => dk5 N M w n
  | 6, _ => dk6 N M w n
  | 7, _ => dk7 N M w n
  | 8, _ => dk8 N M w n
  | 9, _ => dk9 N M w n
  | 10, _ => dk10 N M w n
  | 11, _ => dk11 N M w n
  | 12, _ => dk12 N M w n
  | 13, _ => dk13 N M w n
  | 14, _ => dk14 N M w n
  | 15, _ => dk15 N M w n
  | 16, _ => dk16 N M w n
  | 17, _ => dk17 N M w n
  | 18, _ => dk18 N M w n
  | 19, _ => dk19 N M w n
  | 20, _ => dk20 N M w n
  | 21, _ => dk21 N M w n
  | 22, _ => dk22 N M w n
  | 23, _ => dk23 N M w n
  | 24, _ => dk24 N M w n
  | 25, _ => dk25 N M w n
  | 26, _ => dk26 N M w n
  | 27, _ => dk27 N M w n
  | 28, _ => dk28 N M w n
  | 29, _ => dk29 N M w n
  | 30, _ => dk30 N M w n
  | 31, _ => dk31 N M w n
  | 32, _ => dk32 N M w n
  | 33, _ => dk33 N M w n
  | 34, _ => dk34 N M w n
  | 35, _ => dk35 N M w n
  | 36, _ => dk36 N M w n
  | 37, _ => dk37 N M w n
  | 38, _ => dk38 N M w n
  | 39, _ => dk39 N M w n
  | 40, _ => dk40 N M w n
  | 41, _ => dk41 N M w n
  | 42, _ => dk42 N M w n
  | 43, _ => dk43 N M w n
  | 44, _ => dk44 N M w n
  | 45, _ => dk45 N M w n
  | 46, _ => dk46 N M w n
  | 47, _ => dk47 N M w n
  | 48, _ => dk48 N M w n
  | 49, _ => dk49 N M w n
  | i + 50, h => absurd h (by omega)
theorem do_ok {i : Nat} (hi : i < 50) (w n : Int) : EvC Fk false 11 [.pt 8 0 0, act n] (H i w) (.ret done (H (i + 1) (pm w n))) := .kern 400 20 fun N M => (d_all N M w n i hi).1
theorem now_ok {i : Nat} (hi : i < 50) (w : Int) : EvC Fk false 15 [.pt 8 0 0] (H (i + 1) w) (.ret (.it .i64 w) (H (i + 1) w)) := .kern 400 20 fun N M => (d_all N M w 0 i hi).2
theorem cfg_ok : EvC Fk false 9 [] h0 (.ret cfgV h0) := .kern 400 20 fun N M => by kernel_rfl
theorem new_ok : EvC Fk false 8 [cfgV] h0 (.ret (.tu [.pt 8 0 0, .it .i64 0]) (H 0 0)) := .kern 400 20 fun N M => by kernel_rfl
end Go.Proofs.YtnnhhfjkkmakaaaGreatDoor.clk
