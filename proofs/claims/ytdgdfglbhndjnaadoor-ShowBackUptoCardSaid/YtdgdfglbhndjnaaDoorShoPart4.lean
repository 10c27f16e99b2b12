/-
  Tree: what the reader's great functions do is what is said of them.
  Tree: reading a text; its term, its declarations.
  Tree: Term and Parse, of a text.
  Tree: what reading answers, whatever is read: it ends, and each part of a tree begins at a token.
  Tree: a text and what its reader has.
  Show: ShowFiles answers yes.
  Show: what is read of a memory as trees is trees.
  Show: texts and their tokens, put together.
  Show: the tokens of a tree's text.
-/
import Derived.Test.YtdgdfglbhndjnaaDoorShoPart3
import Derived.ReadAgain
import Derived.OpenShut

set_option linter.all false
set_option linter.unusedSimpArgs false
set_option linter.unusedVariables false

section
namespace Go.Vai
open Go.Proofs

theorem g49 (n k : Nat) (l : List D) (i : Int) : evBody cx (T4 k) n 49 [.ptr 0 0] [(0, .val 2 (.d (.agg [.sl 3 l, .int .i64 i])))] = optK (Sp.tok l i) fun p => bif decide (p.fst = 1) then LP cx (T4 k) n 49 1 2 n [(0, V.ptr 0 0), (3, V.sl 1 [D.str p.snd.1] 7)] [(0, Ob.val 2 (V.d (D.agg [D.sl 3 l, D.int IntKind.i64 (up i)]))), (7, Ob.tok 1)] (AK cx (T4 k) n 49 1 2 (EK cx 49 1)) else some (Out.pan (V.d (D.iface 79 (D.agg [D.int IntKind.i64 p.snd.snd, D.int IntKind.i64 (61 : Int)]))), [(0, Ob.val 2 (V.d (D.agg [D.sl 3 l, D.int IntKind.i64 i])))]) := by kernel_rfl

theorem g25 (n k : Nat) (l : List D) (i v : Int) : evBody cx (T4 k) n 25 [.ptr 0 0, .d (.int .i64 v)] [(0, .val 2 (.d (.agg [.sl 3 l, .int .i64 i])))] = bif decide (200 < v) then optK (Sp.tok l i) fun p => some (Out.pan (V.d (D.iface 79 (D.agg [D.int IntKind.i64 p.snd.snd, D.int IntKind.i64 (62 : Int)]))), [(0, Ob.val 2 (V.d (D.agg [D.sl 3 l, D.int IntKind.i64 i])))]) else optK (Sp.tok l i) fun p => optK (Sp.tok l i) fun p_1 => bif Sp.isS p_1 [92] then optK (Sp.names k l (IntKind.i64.wrap (i + (1 : Int)))) fun p_2 => bif Sp.okN p_2 then optK (Sp.tok l (Sp.nxtN p_2)) fun p_3 => bif Sp.isS p_3 [46] then optK (Sp.term k l (up (Sp.nxtN p_2)) (IntKind.i64.wrap (v + (1 : Int)))) fun p_4 => bif Sp.okQ p_4 then some (Out.ret (V.d (D.agg [D.int IntKind.i64 (2 : Int), D.str [], D.sl 5 [D.agg [D.int IntKind.i64 (Sp.trOf p_4).k, D.str (Sp.trOf p_4).2, D.sl 5 (Sp.trOf p_4).3, D.sl 1 (Sp.trOf p_4).4, D.int IntKind.i64 (Sp.trOf p_4).pl]], D.sl 1 (Sp.lN p_2), D.int IntKind.i64 p.snd.snd])), [(0, Ob.val 2 (V.d (D.agg [D.sl 3 l, D.int IntKind.i64 (Sp.nxt p_4)])))]) else some (Out.pan (V.d (D.iface 79 (D.agg [D.int IntKind.i64 (Sp.bAt p_4), D.int IntKind.i64 (Sp.bE p_4)]))), [(0, Ob.val 2 (V.d (D.agg [D.sl 3 l, D.int IntKind.i64 (Sp.nxt p_4)])))]) else some (Out.pan (V.d (D.iface 79 (D.agg [D.int IntKind.i64 p_3.snd.snd, D.int IntKind.i64 (61 : Int)]))), [(0, Ob.val 2 (V.d (D.agg [D.sl 3 l, D.int IntKind.i64 (Sp.nxtN p_2)])))]) else some (Out.pan (V.d (D.iface 79 (D.agg [D.int IntKind.i64 (Sp.bAtN p_2), D.int IntKind.i64 (Sp.bEN p_2)]))), [(0, Ob.val 2 (V.d (D.agg [D.sl 3 l, D.int IntKind.i64 (Sp.nxtN p_2)])))]) else optK (Sp.tok l i) fun p_2 => bif Sp.isS p_2 [60] then optK (Sp.names k l (IntKind.i64.wrap (i + (1 : Int)))) fun p_3 => bif Sp.okN p_3 then optK (Sp.tok l (Sp.nxtN p_3)) fun p_4 => bif Sp.isS p_4 [62] then optK (Sp.term k l (up (Sp.nxtN p_3)) (IntKind.i64.wrap (v + (1 : Int)))) fun p_5 => bif Sp.okQ p_5 then some (Out.ret (V.d (D.agg [D.int IntKind.i64 (3 : Int), D.str [], D.sl 5 [D.agg [D.int IntKind.i64 (Sp.trOf p_5).k, D.str (Sp.trOf p_5).2, D.sl 5 (Sp.trOf p_5).3, D.sl 1 (Sp.trOf p_5).4, D.int IntKind.i64 (Sp.trOf p_5).pl]], D.sl 1 (Sp.lN p_3), D.int IntKind.i64 p.snd.snd])), [(0, Ob.val 2 (V.d (D.agg [D.sl 3 l, D.int IntKind.i64 (Sp.nxt p_5)])))]) else some (Out.pan (V.d (D.iface 79 (D.agg [D.int IntKind.i64 (Sp.bAt p_5), D.int IntKind.i64 (Sp.bE p_5)]))), [(0, Ob.val 2 (V.d (D.agg [D.sl 3 l, D.int IntKind.i64 (Sp.nxt p_5)])))]) else some (Out.pan (V.d (D.iface 79 (D.agg [D.int IntKind.i64 p_4.snd.snd, D.int IntKind.i64 (61 : Int)]))), [(0, Ob.val 2 (V.d (D.agg [D.sl 3 l, D.int IntKind.i64 (Sp.nxtN p_3)])))]) else some (Out.pan (V.d (D.iface 79 (D.agg [D.int IntKind.i64 (Sp.bAtN p_3), D.int IntKind.i64 (Sp.bEN p_3)]))), [(0, Ob.val 2 (V.d (D.agg [D.sl 3 l, D.int IntKind.i64 (Sp.nxtN p_3)])))]) else optK (Sp.binds l i) fun b => bif b then optK (Sp.tok l (IntKind.i64.wrap (i + (1 : Int)))) fun p_3 => optK (Sp.term k l (IntKind.i64.wrap (up (IntKind.i64.wrap (i + (1 : Int))) + (1 : Int))) (IntKind.i64.wrap (v + (1 : Int)))) fun p_4 => bif Sp.okQ p_4 then optK (Sp.tok l (Sp.nxt p_4)) fun p_5 => bif Sp.isS p_5 [41] then optK (Sp.tok l (up (Sp.nxt p_4))) fun p_6 => bif !decide (Sp.arr p_6 = (0 : Int)) then optK (Sp.term k l (IntKind.i64.wrap (up (Sp.nxt p_4) + (1 : Int))) (IntKind.i64.wrap (v + (1 : Int)))) fun p_7 => bif Sp.okQ p_7 then some (Out.ret (V.d (D.agg [D.int IntKind.i64 (Sp.arr p_6), D.str [], D.sl 5 [D.agg [D.int IntKind.i64 (Sp.trOf p_4).k, D.str (Sp.trOf p_4).2, D.sl 5 (Sp.trOf p_4).3, D.sl 1 (Sp.trOf p_4).4, D.int IntKind.i64 (Sp.trOf p_4).pl], D.agg [D.int IntKind.i64 (Sp.trOf p_7).k, D.str (Sp.trOf p_7).2, D.sl 5 (Sp.trOf p_7).3, D.sl 1 (Sp.trOf p_7).4, D.int IntKind.i64 (Sp.trOf p_7).pl]], D.sl 1 [D.str p_3.snd.1], D.int IntKind.i64 p.snd.snd])), [(0, Ob.val 2 (V.d (D.agg [D.sl 3 l, D.int IntKind.i64 (Sp.nxt p_7)])))]) else some (Out.pan (V.d (D.iface 79 (D.agg [D.int IntKind.i64 (Sp.bAt p_7), D.int IntKind.i64 (Sp.bE p_7)]))), [(0, Ob.val 2 (V.d (D.agg [D.sl 3 l, D.int IntKind.i64 (Sp.nxt p_7)])))]) else optK (Sp.after k l (up (Sp.nxt p_4)) v { k := (9 : Int), nm := [], kids := [D.agg [D.int IntKind.i64 (1 : Int), D.str p_3.snd.1, D.sl 5 [], D.sl 1 [], D.int IntKind.i64 p_3.snd.snd], D.agg [D.int IntKind.i64 (Sp.trOf p_4).k, D.str (Sp.trOf p_4).2, D.sl 5 (Sp.trOf p_4).3, D.sl 1 (Sp.trOf p_4).4, D.int IntKind.i64 (Sp.trOf p_4).pl]], nms := [], pl := p.snd.snd }) fun p => bif Sp.okQ p then some (Out.ret (V.d (D.agg [D.int IntKind.i64 (Sp.trOf p).k, D.str (Sp.trOf p).2, D.sl 5 (Sp.trOf p).3, D.sl 1 (Sp.trOf p).4, D.int IntKind.i64 (Sp.trOf p).pl])), [(0, Ob.val 2 (V.d (D.agg [D.sl 3 l, D.int IntKind.i64 (Sp.nxt p)])))]) else some (Out.pan (V.d (D.iface 79 (D.agg [D.int IntKind.i64 (Sp.bAt p), D.int IntKind.i64 (Sp.bE p)]))), [(0, Ob.val 2 (V.d (D.agg [D.sl 3 l, D.int IntKind.i64 (Sp.nxt p)])))]) else some (Out.pan (V.d (D.iface 79 (D.agg [D.int IntKind.i64 p_5.snd.snd, D.int IntKind.i64 (61 : Int)]))), [(0, Ob.val 2 (V.d (D.agg [D.sl 3 l, D.int IntKind.i64 (Sp.nxt p_4)])))]) else some (Out.pan (V.d (D.iface 79 (D.agg [D.int IntKind.i64 (Sp.bAt p_4), D.int IntKind.i64 (Sp.bE p_4)]))), [(0, Ob.val 2 (V.d (D.agg [D.sl 3 l, D.int IntKind.i64 (Sp.nxt p_4)])))]) else optK (Sp.atom k l i v) fun p => bif Sp.okQ p then optK (Sp.after k l (Sp.nxt p) v { k := (Sp.trOf p).k, nm := (Sp.trOf p).2, kids := (Sp.trOf p).3, nms := (Sp.trOf p).4, pl := (Sp.trOf p).pl }) fun p => bif Sp.okQ p then some (Out.ret (V.d (D.agg [D.int IntKind.i64 (Sp.trOf p).k, D.str (Sp.trOf p).2, D.sl 5 (Sp.trOf p).3, D.sl 1 (Sp.trOf p).4, D.int IntKind.i64 (Sp.trOf p).pl])), [(0, Ob.val 2 (V.d (D.agg [D.sl 3 l, D.int IntKind.i64 (Sp.nxt p)])))]) else some (Out.pan (V.d (D.iface 79 (D.agg [D.int IntKind.i64 (Sp.bAt p), D.int IntKind.i64 (Sp.bE p)]))), [(0, Ob.val 2 (V.d (D.agg [D.sl 3 l, D.int IntKind.i64 (Sp.nxt p)])))]) else some (Out.pan (V.d (D.iface 79 (D.agg [D.int IntKind.i64 (Sp.bAt p), D.int IntKind.i64 (Sp.bE p)]))), [(0, Ob.val 2 (V.d (D.agg [D.sl 3 l, D.int IntKind.i64 (Sp.nxt p)])))]) := by kernel_rfl

theorem g56 (n k : Nat) (l : List D) (i v : Int) : evBody cx (T4 k) n 56 [.ptr 0 0, .d (.int .i64 v)] [(0, .val 2 (.d (.agg [.sl 3 l, .int .i64 i])))] = optK (Sp.tok l i) fun p => optK (Sp.tok l i) fun p_1 => bif decide (p_1.fst = (1 : Int)) then optK (Sp.tok l i) fun p_2 => bif decide (p_2.fst = 1) then some (Out.ret (V.d (D.agg [D.int IntKind.i64 (1 : Int), D.str p_2.snd.1, D.sl 5 [], D.sl 1 [], D.int IntKind.i64 p.snd.snd])), [(0, Ob.val 2 (V.d (D.agg [D.sl 3 l, D.int IntKind.i64 (up i)])))]) else some (Out.pan (V.d (D.iface 79 (D.agg [D.int IntKind.i64 p_2.snd.snd, D.int IntKind.i64 (61 : Int)]))), [(0, Ob.val 2 (V.d (D.agg [D.sl 3 l, D.int IntKind.i64 i])))]) else optK (Sp.tok l i) fun p_2 => bif Sp.isS p_2 [91] then optK (Sp.box k l i v) fun p => bif Sp.okQ p then some (Out.ret (V.d (D.agg [D.int IntKind.i64 (Sp.trOf p).k, D.str (Sp.trOf p).2, D.sl 5 (Sp.trOf p).3, D.sl 1 (Sp.trOf p).4, D.int IntKind.i64 (Sp.trOf p).pl])), [(0, Ob.val 2 (V.d (D.agg [D.sl 3 l, D.int IntKind.i64 (Sp.nxt p)])))]) else some (Out.pan (V.d (D.iface 79 (D.agg [D.int IntKind.i64 (Sp.bAt p), D.int IntKind.i64 (Sp.bE p)]))), [(0, Ob.val 2 (V.d (D.agg [D.sl 3 l, D.int IntKind.i64 (Sp.nxt p)])))]) else optK (Sp.tok l i) fun p_3 => bif Sp.isS p_3 [40] then optK (Sp.term k l (up i) (IntKind.i64.wrap (v + (1 : Int)))) fun p_4 => bif Sp.okQ p_4 then optK (Sp.tok l (Sp.nxt p_4)) fun p_5 => bif Sp.isS p_5 [44] then optK (Sp.term k l (IntKind.i64.wrap (Sp.nxt p_4 + (1 : Int))) (IntKind.i64.wrap (v + (1 : Int)))) fun p_6 => bif Sp.okQ p_6 then optK (Sp.tok l (Sp.nxt p_6)) fun p_7 => bif Sp.isS p_7 [41] then some (Out.ret (V.d (D.agg [D.int IntKind.i64 (8 : Int), D.str [], D.sl 5 [D.agg [D.int IntKind.i64 (Sp.trOf p_4).k, D.str (Sp.trOf p_4).2, D.sl 5 (Sp.trOf p_4).3, D.sl 1 (Sp.trOf p_4).4, D.int IntKind.i64 (Sp.trOf p_4).pl], D.agg [D.int IntKind.i64 (Sp.trOf p_6).k, D.str (Sp.trOf p_6).2, D.sl 5 (Sp.trOf p_6).3, D.sl 1 (Sp.trOf p_6).4, D.int IntKind.i64 (Sp.trOf p_6).pl]], D.sl 1 [], D.int IntKind.i64 p.snd.snd])), [(0, Ob.val 2 (V.d (D.agg [D.sl 3 l, D.int IntKind.i64 (up (Sp.nxt p_6))])))]) else some (Out.pan (V.d (D.iface 79 (D.agg [D.int IntKind.i64 p_7.snd.snd, D.int IntKind.i64 (61 : Int)]))), [(0, Ob.val 2 (V.d (D.agg [D.sl 3 l, D.int IntKind.i64 (Sp.nxt p_6)])))]) else some (Out.pan (V.d (D.iface 79 (D.agg [D.int IntKind.i64 (Sp.bAt p_6), D.int IntKind.i64 (Sp.bE p_6)]))), [(0, Ob.val 2 (V.d (D.agg [D.sl 3 l, D.int IntKind.i64 (Sp.nxt p_6)])))]) else optK (Sp.tok l (Sp.nxt p_4)) fun p_6 => bif Sp.isS p_6 [58] then optK (Sp.term k l (IntKind.i64.wrap (Sp.nxt p_4 + (1 : Int))) (IntKind.i64.wrap (v + (1 : Int)))) fun p_7 => bif Sp.okQ p_7 then optK (Sp.tok l (Sp.nxt p_7)) fun p_8 => bif Sp.isS p_8 [41] then some (Out.ret (V.d (D.agg [D.int IntKind.i64 (9 : Int), D.str [], D.sl 5 [D.agg [D.int IntKind.i64 (Sp.trOf p_4).k, D.str (Sp.trOf p_4).2, D.sl 5 (Sp.trOf p_4).3, D.sl 1 (Sp.trOf p_4).4, D.int IntKind.i64 (Sp.trOf p_4).pl], D.agg [D.int IntKind.i64 (Sp.trOf p_7).k, D.str (Sp.trOf p_7).2, D.sl 5 (Sp.trOf p_7).3, D.sl 1 (Sp.trOf p_7).4, D.int IntKind.i64 (Sp.trOf p_7).pl]], D.sl 1 [], D.int IntKind.i64 p.snd.snd])), [(0, Ob.val 2 (V.d (D.agg [D.sl 3 l, D.int IntKind.i64 (up (Sp.nxt p_7))])))]) else some (Out.pan (V.d (D.iface 79 (D.agg [D.int IntKind.i64 p_8.snd.snd, D.int IntKind.i64 (61 : Int)]))), [(0, Ob.val 2 (V.d (D.agg [D.sl 3 l, D.int IntKind.i64 (Sp.nxt p_7)])))]) else some (Out.pan (V.d (D.iface 79 (D.agg [D.int IntKind.i64 (Sp.bAt p_7), D.int IntKind.i64 (Sp.bE p_7)]))), [(0, Ob.val 2 (V.d (D.agg [D.sl 3 l, D.int IntKind.i64 (Sp.nxt p_7)])))]) else optK (Sp.tok l (Sp.nxt p_4)) fun p => bif Sp.isS p [41] then some (Out.ret (V.d (D.agg [D.int IntKind.i64 (Sp.trOf p_4).k, D.str (Sp.trOf p_4).2, D.sl 5 (Sp.trOf p_4).3, D.sl 1 (Sp.trOf p_4).4, D.int IntKind.i64 (Sp.trOf p_4).pl])), [(0, Ob.val 2 (V.d (D.agg [D.sl 3 l, D.int IntKind.i64 (up (Sp.nxt p_4))])))]) else some (Out.pan (V.d (D.iface 79 (D.agg [D.int IntKind.i64 p.snd.snd, D.int IntKind.i64 (61 : Int)]))), [(0, Ob.val 2 (V.d (D.agg [D.sl 3 l, D.int IntKind.i64 (Sp.nxt p_4)])))]) else some (Out.pan (V.d (D.iface 79 (D.agg [D.int IntKind.i64 (Sp.bAt p_4), D.int IntKind.i64 (Sp.bE p_4)]))), [(0, Ob.val 2 (V.d (D.agg [D.sl 3 l, D.int IntKind.i64 (Sp.nxt p_4)])))]) else some (Out.pan (V.d (D.iface 79 (D.agg [D.int IntKind.i64 p_3.snd.snd, D.int IntKind.i64 (61 : Int)]))), [(0, Ob.val 2 (V.d (D.agg [D.sl 3 l, D.int IntKind.i64 i])))]) := by kernel_rfl

theorem g80 (n k : Nat) (l : List D) (i v : Int) : evBody cx (T4 k) n 80 [.ptr 0 0, .d (.int .i64 v)] [(0, .val 2 (.d (.agg [.sl 3 l, .int .i64 i])))] = bif decide (200 < v) then optK (Sp.tok l i) fun p => some (Out.pan (V.d (D.iface 79 (D.agg [D.int IntKind.i64 p.snd.snd, D.int IntKind.i64 (62 : Int)]))), [(0, Ob.val 2 (V.d (D.agg [D.sl 3 l, D.int IntKind.i64 i])))]) else optK (Sp.tok l i) fun p => optK (Sp.tok l i) fun p_1 => bif decide (p_1.fst = (1 : Int)) then optK (Sp.tok l i) fun p_2 => bif decide (p_2.fst = 1) then some (Out.ret (V.d (D.agg [D.int IntKind.i64 (1 : Int), D.str p_2.snd.1, D.sl 5 [], D.sl 1 [], D.int IntKind.i64 p.snd.snd])), [(0, Ob.val 2 (V.d (D.agg [D.sl 3 l, D.int IntKind.i64 (up i)])))]) else some (Out.pan (V.d (D.iface 79 (D.agg [D.int IntKind.i64 p_2.snd.snd, D.int IntKind.i64 (61 : Int)]))), [(0, Ob.val 2 (V.d (D.agg [D.sl 3 l, D.int IntKind.i64 i])))]) else optK (Sp.tok l i) fun p_2 => bif Sp.isS p_2 [48] then optK (Sp.tok l i) fun p_3 => some (Out.ret (V.d (D.agg [D.int IntKind.i64 (17 : Int), D.str p_3.snd.1, D.sl 5 [], D.sl 1 [], D.int IntKind.i64 p.snd.snd])), [(0, Ob.val 2 (V.d (D.agg [D.sl 3 l, D.int IntKind.i64 (up i)])))]) else optK (Sp.tok l i) fun p_3 => bif Sp.isS p_3 [49] then optK (Sp.tok l i) fun p_4 => some (Out.ret (V.d (D.agg [D.int IntKind.i64 (17 : Int), D.str p_4.snd.1, D.sl 5 [], D.sl 1 [], D.int IntKind.i64 p.snd.snd])), [(0, Ob.val 2 (V.d (D.agg [D.sl 3 l, D.int IntKind.i64 (up i)])))]) else optK (Sp.tok l i) fun p_4 => bif Sp.isS p_4 [126] then optK (Sp.dim k l (IntKind.i64.wrap (i + (1 : Int))) (IntKind.i64.wrap (v + (1 : Int)))) fun p_5 => bif Sp.okQ p_5 then some (Out.ret (V.d (D.agg [D.int IntKind.i64 (16 : Int), D.str [], D.sl 5 [D.agg [D.int IntKind.i64 (Sp.trOf p_5).k, D.str (Sp.trOf p_5).2, D.sl 5 (Sp.trOf p_5).3, D.sl 1 (Sp.trOf p_5).4, D.int IntKind.i64 (Sp.trOf p_5).pl]], D.sl 1 [], D.int IntKind.i64 p.snd.snd])), [(0, Ob.val 2 (V.d (D.agg [D.sl 3 l, D.int IntKind.i64 (Sp.nxt p_5)])))]) else some (Out.pan (V.d (D.iface 79 (D.agg [D.int IntKind.i64 (Sp.bAt p_5), D.int IntKind.i64 (Sp.bE p_5)]))), [(0, Ob.val 2 (V.d (D.agg [D.sl 3 l, D.int IntKind.i64 (Sp.nxt p_5)])))]) else optK (Sp.tok l i) fun p => bif Sp.isS p [40] then optK (Sp.join k l (up i) (IntKind.i64.wrap (v + (1 : Int)))) fun p => bif Sp.okQ p then optK (Sp.tok l (Sp.nxt p)) fun p_5 => bif Sp.isS p_5 [41] then some (Out.ret (V.d (D.agg [D.int IntKind.i64 (Sp.trOf p).k, D.str (Sp.trOf p).2, D.sl 5 (Sp.trOf p).3, D.sl 1 (Sp.trOf p).4, D.int IntKind.i64 (Sp.trOf p).pl])), [(0, Ob.val 2 (V.d (D.agg [D.sl 3 l, D.int IntKind.i64 (up (Sp.nxt p))])))]) else some (Out.pan (V.d (D.iface 79 (D.agg [D.int IntKind.i64 p_5.snd.snd, D.int IntKind.i64 (61 : Int)]))), [(0, Ob.val 2 (V.d (D.agg [D.sl 3 l, D.int IntKind.i64 (Sp.nxt p)])))]) else some (Out.pan (V.d (D.iface 79 (D.agg [D.int IntKind.i64 (Sp.bAt p), D.int IntKind.i64 (Sp.bE p)]))), [(0, Ob.val 2 (V.d (D.agg [D.sl 3 l, D.int IntKind.i64 (Sp.nxt p)])))]) else some (Out.pan (V.d (D.iface 79 (D.agg [D.int IntKind.i64 p.snd.snd, D.int IntKind.i64 (61 : Int)]))), [(0, Ob.val 2 (V.d (D.agg [D.sl 3 l, D.int IntKind.i64 i])))]) := by kernel_rfl

theorem g101 (n k : Nat) (l : List D) (i v : Int) : evBody cx (T4 k) n 101 [.ptr 0 0, .d (.int .i64 v)] [(0, .val 2 (.d (.agg [.sl 3 l, .int .i64 i])))] = optK (Sp.meet k l i v) fun p => bif Sp.okQ p then LP cx (T4 k) n 101 1 2 n [(0, V.ptr 0 0), (1, V.d (D.int IntKind.i64 v)), (4, V.ptr 5 0), (5, V.ptr 6 0)] [(0, Ob.val 2 (V.d (D.agg [D.sl 3 l, D.int IntKind.i64 (Sp.nxt p)]))), (5, Ob.val 5 (V.d (D.agg [D.int IntKind.i64 (0 : Int), D.str [], D.sl 5 [], D.sl 1 [], D.int IntKind.i64 (0 : Int)]))), (6, Ob.val 5 (V.d (D.agg [D.int IntKind.i64 (Sp.trOf p).k, D.str (Sp.trOf p).2, D.sl 5 (Sp.trOf p).3, D.sl 1 (Sp.trOf p).4, D.int IntKind.i64 (Sp.trOf p).pl])))] (AK cx (T4 k) n 101 1 2 (EK cx 101 1)) else some (Out.pan (V.d (D.iface 79 (D.agg [D.int IntKind.i64 (Sp.bAt p), D.int IntKind.i64 (Sp.bE p)]))), [(0, Ob.val 2 (V.d (D.agg [D.sl 3 l, D.int IntKind.i64 (Sp.nxt p)])))]) := by kernel_rfl

theorem g110 (n k : Nat) (l : List D) (i v : Int) : evBody cx (T4 k) n 110 [.ptr 0 0, .d (.int .i64 v)] [(0, .val 2 (.d (.agg [.sl 3 l, .int .i64 i])))] = optK (Sp.dim k l i v) fun p => bif Sp.okQ p then LP cx (T4 k) n 110 1 2 n [(0, V.ptr 0 0), (1, V.d (D.int IntKind.i64 v)), (4, V.ptr 5 0), (5, V.ptr 6 0)] [(0, Ob.val 2 (V.d (D.agg [D.sl 3 l, D.int IntKind.i64 (Sp.nxt p)]))), (5, Ob.val 5 (V.d (D.agg [D.int IntKind.i64 (0 : Int), D.str [], D.sl 5 [], D.sl 1 [], D.int IntKind.i64 (0 : Int)]))), (6, Ob.val 5 (V.d (D.agg [D.int IntKind.i64 (Sp.trOf p).k, D.str (Sp.trOf p).2, D.sl 5 (Sp.trOf p).3, D.sl 1 (Sp.trOf p).4, D.int IntKind.i64 (Sp.trOf p).pl])))] (AK cx (T4 k) n 110 1 2 (EK cx 110 1)) else some (Out.pan (V.d (D.iface 79 (D.agg [D.int IntKind.i64 (Sp.bAt p), D.int IntKind.i64 (Sp.bE p)]))), [(0, Ob.val 2 (V.d (D.agg [D.sl 3 l, D.int IntKind.i64 (Sp.nxt p)])))]) := by kernel_rfl

theorem g102 (n k : Nat) (l : List D) (i : Int) : evBody cx (T4 k) n 102 [.ptr 0 0] [(0, .val 2 (.d (.agg [.sl 3 l, .int .i64 i])))] = optK (Sp.tok l i) fun p => optK (Sp.tok l i) fun p_1 => bif Sp.isS p_1 [49] then some (Out.ret (V.d (D.agg [D.int IntKind.i64 (12 : Int), D.str [], D.sl 5 [], D.sl 1 [], D.int IntKind.i64 p.snd.snd])), [(0, Ob.val 2 (V.d (D.agg [D.sl 3 l, D.int IntKind.i64 (IntKind.i64.wrap (i + (1 : Int)))])))]) else LP cx (T4 k) n 102 1 5 n [(0, V.ptr 0 0), (2, V.ptr 3 0), (3, V.ptr 4 0)] [(0, Ob.val 2 (V.d (D.agg [D.sl 3 l, D.int IntKind.i64 i]))), (3, Ob.val 5 (V.d (D.agg [D.int IntKind.i64 (0 : Int), D.str [], D.sl 5 [], D.sl 1 [], D.int IntKind.i64 (0 : Int)]))), (4, Ob.val 5 (V.agg [V.d (D.int IntKind.i64 (12 : Int)), V.d (D.str []), V.sl 5 [] 10, V.d (D.sl 1 []), V.d (D.int IntKind.i64 p.snd.snd)])), (10, Ob.tok 0)] (AK cx (T4 k) n 102 1 5 (EK cx 102 1)) := by kernel_rfl

theorem g81 (n k : Nat) (l : List D) (i v : Int) : evBody cx (T4 k) n 81 [.ptr 0 0, .d (.int .i64 v)] [(0, .val 2 (.d (.agg [.sl 3 l, .int .i64 i])))] = optK (Sp.tok l i) fun p => LP cx (T4 k) n 81 1 2 n [(0, V.ptr 0 0), (1, V.d (D.int IntKind.i64 v)), (4, V.ptr 5 0), (5, V.ptr 6 0)] [(0, Ob.val 2 (V.d (D.agg [D.sl 3 l, D.int IntKind.i64 (up i)]))), (5, Ob.val 5 (V.d (D.agg [D.int IntKind.i64 (0 : Int), D.str [], D.sl 5 [], D.sl 1 [], D.int IntKind.i64 (0 : Int)]))), (6, Ob.val 5 (V.agg [V.d (D.int IntKind.i64 (10 : Int)), V.d (D.str []), V.sl 5 [] 11, V.d (D.sl 1 []), V.d (D.int IntKind.i64 p.snd.snd)])), (11, Ob.tok 0)] (AK cx (T4 k) n 81 1 2 (EK cx 81 1)) := by kernel_rfl

theorem g28 (n k : Nat) (l : List D) (i : Int) : evBody cx (T4 k) n 28 [.ptr 0 0] [(0, .val 2 (.d (.agg [.sl 3 l, .int .i64 i])))] = optK (Sp.tok l i) fun p => optK (Sp.tok l i) fun p_1 => bif decide (p_1.fst = 1) then optK (Sp.tok l (up i)) fun p_2 => bif Sp.isS p_2 [58] then optK (Sp.term k l (up (up i)) (1 : Int)) fun p_3 => bif Sp.okQ p_3 then optK (Sp.tok l (Sp.nxt p_3)) fun p_4 => bif Sp.isS p_4 [61] then optK (Sp.term k l (up (Sp.nxt p_3)) (1 : Int)) fun p_5 => bif Sp.okQ p_5 then optK (Sp.tok l (Sp.nxt p_5)) fun p_6 => bif Sp.isS p_6 [59] then some (Out.ret (V.d (D.agg [D.int IntKind.i64 (18 : Int), D.str p_1.snd.1, D.sl 5 [D.agg [D.int IntKind.i64 (Sp.trOf p_3).k, D.str (Sp.trOf p_3).2, D.sl 5 (Sp.trOf p_3).3, D.sl 1 (Sp.trOf p_3).4, D.int IntKind.i64 (Sp.trOf p_3).pl], D.agg [D.int IntKind.i64 (Sp.trOf p_5).k, D.str (Sp.trOf p_5).2, D.sl 5 (Sp.trOf p_5).3, D.sl 1 (Sp.trOf p_5).4, D.int IntKind.i64 (Sp.trOf p_5).pl]], D.sl 1 [], D.int IntKind.i64 p.snd.snd])), [(0, Ob.val 2 (V.d (D.agg [D.sl 3 l, D.int IntKind.i64 (up (Sp.nxt p_5))])))]) else some (Out.pan (V.d (D.iface 79 (D.agg [D.int IntKind.i64 p_6.snd.snd, D.int IntKind.i64 (61 : Int)]))), [(0, Ob.val 2 (V.d (D.agg [D.sl 3 l, D.int IntKind.i64 (Sp.nxt p_5)])))]) else some (Out.pan (V.d (D.iface 79 (D.agg [D.int IntKind.i64 (Sp.bAt p_5), D.int IntKind.i64 (Sp.bE p_5)]))), [(0, Ob.val 2 (V.d (D.agg [D.sl 3 l, D.int IntKind.i64 (Sp.nxt p_5)])))]) else some (Out.pan (V.d (D.iface 79 (D.agg [D.int IntKind.i64 p_4.snd.snd, D.int IntKind.i64 (61 : Int)]))), [(0, Ob.val 2 (V.d (D.agg [D.sl 3 l, D.int IntKind.i64 (Sp.nxt p_3)])))]) else some (Out.pan (V.d (D.iface 79 (D.agg [D.int IntKind.i64 (Sp.bAt p_3), D.int IntKind.i64 (Sp.bE p_3)]))), [(0, Ob.val 2 (V.d (D.agg [D.sl 3 l, D.int IntKind.i64 (Sp.nxt p_3)])))]) else some (Out.pan (V.d (D.iface 79 (D.agg [D.int IntKind.i64 p_2.snd.snd, D.int IntKind.i64 (61 : Int)]))), [(0, Ob.val 2 (V.d (D.agg [D.sl 3 l, D.int IntKind.i64 (up i)])))]) else some (Out.pan (V.d (D.iface 79 (D.agg [D.int IntKind.i64 p_1.snd.snd, D.int IntKind.i64 (61 : Int)]))), [(0, Ob.val 2 (V.d (D.agg [D.sl 3 l, D.int IntKind.i64 i])))]) := by kernel_rfl

theorem g54 (n k : Nat) (l : List D) (i v : Int) (t : Tr) : evBody cx (T4 k) n 54 [.ptr 0 0, .d (.int .i64 v), .d (trD t)] [(0, .val 2 (.d (.agg [.sl 3 l, .int .i64 i])))] = LP cx (T4 k) n 54 1 6 n [(0, V.ptr 0 0), (1, V.d (D.int IntKind.i64 v)), (5, V.ptr 6 0), (6, V.ptr 7 0)] [(0, Ob.val 2 (V.d (D.agg [D.sl 3 l, D.int IntKind.i64 i]))), (6, Ob.val 5 (V.d (D.agg [D.int IntKind.i64 t.k, D.str t.2, D.sl 5 t.3, D.sl 1 t.4, D.int IntKind.i64 t.pl]))), (7, Ob.val 5 (V.d (D.agg [D.int IntKind.i64 (0 : Int), D.str [], D.sl 5 [], D.sl 1 [], D.int IntKind.i64 (0 : Int)])))] (AK cx (T4 k) n 54 1 6 (EK cx 54 1)) := by kernel_rfl

theorem h49 (n k r : Nat) (l ns : List D) (i : Int) : LP cx (T4 k) n 49 1 2 (r + 1) [(0, V.ptr 0 0), (3, V.sl 1 ns 7)] [(0, Ob.val 2 (V.d (D.agg [D.sl 3 l, D.int IntKind.i64 i]))), (7, Ob.tok ns.length)] (AK cx (T4 k) n 49 1 2 (EK cx 49 1)) = optK (Sp.tok l i) fun p => bif decide (p.fst = (1 : Int)) then optK (Sp.tok l i) fun p => bif decide (p.fst = 1) then must (decide (ns.length = ns.length) && decide (ns.length + [D.str p.snd.1].length ≤ 4294967296)) (LP cx (T4 k) n 49 1 2 r [(0, V.ptr 0 0), (3, V.sl 1 (ns ++ [D.str p.snd.1]) 7)] [(0, Ob.val 2 (V.d (D.agg [D.sl 3 l, D.int IntKind.i64 (up i)]))), (7, Ob.tok (ns.length + [D.str p.snd.1].length))] (AK cx (T4 k) n 49 1 2 (EK cx 49 1))) else some (Out.pan (V.d (D.iface 79 (D.agg [D.int IntKind.i64 p.snd.snd, D.int IntKind.i64 (61 : Int)]))), [(0, Ob.val 2 (V.d (D.agg [D.sl 3 l, D.int IntKind.i64 i])))]) else some (Out.ret (V.d (D.sl 1 ns)), [(0, Ob.val 2 (V.d (D.agg [D.sl 3 l, D.int IntKind.i64 i])))]) := by kernel_rfl

theorem h101 (n k r : Nat) (l : List D) (i v : Int) (t u : Tr) : LP cx (T4 k) n 101 1 2 (r + 1) [(0, V.ptr 0 0), (1, V.d (D.int IntKind.i64 v)), (4, V.ptr 5 0), (5, V.ptr 6 0)] [(0, Ob.val 2 (V.d (D.agg [D.sl 3 l, D.int IntKind.i64 i]))), (5, Ob.val 5 (V.d (trD u))), (6, Ob.val 5 (V.d (trD t)))] (AK cx (T4 k) n 101 1 2 (EK cx 101 1)) = optK (Sp.tok l i) fun p => bif Sp.isS p [92, 47] then optK (Sp.meet k l (IntKind.i64.wrap (i + (1 : Int))) v) fun p => bif Sp.okQ p then LP cx (T4 k) n 101 1 2 r [(0, V.ptr 0 0), (1, V.d (D.int IntKind.i64 v)), (4, V.ptr 5 0), (5, V.ptr 6 0)] [(0, Ob.val 2 (V.d (D.agg [D.sl 3 l, D.int IntKind.i64 (Sp.nxt p)]))), (5, Ob.val 5 (V.d (D.agg [D.int IntKind.i64 u.k, D.str u.2, D.sl 5 u.3, D.sl 1 u.4, D.int IntKind.i64 u.pl]))), (6, Ob.val 5 (V.d (D.agg [D.int IntKind.i64 (14 : Int), D.str [], D.sl 5 [D.agg [D.int IntKind.i64 t.k, D.str t.2, D.sl 5 t.3, D.sl 1 t.4, D.int IntKind.i64 t.pl], D.agg [D.int IntKind.i64 (Sp.trOf p).k, D.str (Sp.trOf p).2, D.sl 5 (Sp.trOf p).3, D.sl 1 (Sp.trOf p).4, D.int IntKind.i64 (Sp.trOf p).pl]], D.sl 1 [], D.int IntKind.i64 t.pl])))] (AK cx (T4 k) n 101 1 2 (EK cx 101 1)) else some (Out.pan (V.d (D.iface 79 (D.agg [D.int IntKind.i64 (Sp.bAt p), D.int IntKind.i64 (Sp.bE p)]))), [(0, Ob.val 2 (V.d (D.agg [D.sl 3 l, D.int IntKind.i64 (Sp.nxt p)])))]) else some (Out.ret (V.d (D.agg [D.int IntKind.i64 t.k, D.str t.2, D.sl 5 t.3, D.sl 1 t.4, D.int IntKind.i64 t.pl])), [(0, Ob.val 2 (V.d (D.agg [D.sl 3 l, D.int IntKind.i64 i])))]) := by kernel_rfl

theorem h110 (n k r : Nat) (l : List D) (i v : Int) (t u : Tr) : LP cx (T4 k) n 110 1 2 (r + 1) [(0, V.ptr 0 0), (1, V.d (D.int IntKind.i64 v)), (4, V.ptr 5 0), (5, V.ptr 6 0)] [(0, Ob.val 2 (V.d (D.agg [D.sl 3 l, D.int IntKind.i64 i]))), (5, Ob.val 5 (V.d (trD u))), (6, Ob.val 5 (V.d (trD t)))] (AK cx (T4 k) n 110 1 2 (EK cx 110 1)) = optK (Sp.tok l i) fun p => bif Sp.isS p [47, 92] then optK (Sp.dim k l (IntKind.i64.wrap (i + (1 : Int))) v) fun p => bif Sp.okQ p then LP cx (T4 k) n 110 1 2 r [(0, V.ptr 0 0), (1, V.d (D.int IntKind.i64 v)), (4, V.ptr 5 0), (5, V.ptr 6 0)] [(0, Ob.val 2 (V.d (D.agg [D.sl 3 l, D.int IntKind.i64 (Sp.nxt p)]))), (5, Ob.val 5 (V.d (D.agg [D.int IntKind.i64 u.k, D.str u.2, D.sl 5 u.3, D.sl 1 u.4, D.int IntKind.i64 u.pl]))), (6, Ob.val 5 (V.d (D.agg [D.int IntKind.i64 (15 : Int), D.str [], D.sl 5 [D.agg [D.int IntKind.i64 t.k, D.str t.2, D.sl 5 t.3, D.sl 1 t.4, D.int IntKind.i64 t.pl], D.agg [D.int IntKind.i64 (Sp.trOf p).k, D.str (Sp.trOf p).2, D.sl 5 (Sp.trOf p).3, D.sl 1 (Sp.trOf p).4, D.int IntKind.i64 (Sp.trOf p).pl]], D.sl 1 [], D.int IntKind.i64 t.pl])))] (AK cx (T4 k) n 110 1 2 (EK cx 110 1)) else some (Out.pan (V.d (D.iface 79 (D.agg [D.int IntKind.i64 (Sp.bAt p), D.int IntKind.i64 (Sp.bE p)]))), [(0, Ob.val 2 (V.d (D.agg [D.sl 3 l, D.int IntKind.i64 (Sp.nxt p)])))]) else some (Out.ret (V.d (D.agg [D.int IntKind.i64 t.k, D.str t.2, D.sl 5 t.3, D.sl 1 t.4, D.int IntKind.i64 t.pl])), [(0, Ob.val 2 (V.d (D.agg [D.sl 3 l, D.int IntKind.i64 i])))]) := by kernel_rfl

theorem h54 (n k r : Nat) (l : List D) (i v : Int) (t u : Tr) : LP cx (T4 k) n 54 1 6 (r + 1) [(0, V.ptr 0 0), (1, V.d (D.int IntKind.i64 v)), (5, V.ptr 6 0), (6, V.ptr 7 0)] [(0, Ob.val 2 (V.d (D.agg [D.sl 3 l, D.int IntKind.i64 i]))), (6, Ob.val 5 (V.d (trD t))), (7, Ob.val 5 (V.d (trD u)))] (AK cx (T4 k) n 54 1 6 (EK cx 54 1)) = optK (Sp.tok l i) fun p => bif Sp.isS p [64] then optK (Sp.dim k l (IntKind.i64.wrap (i + (1 : Int))) (IntKind.i64.wrap (v + (1 : Int)))) fun p => bif Sp.okQ p then LP cx (T4 k) n 54 1 6 r [(0, V.ptr 0 0), (1, V.d (D.int IntKind.i64 v)), (5, V.ptr 6 0), (6, V.ptr 7 0)] [(0, Ob.val 2 (V.d (D.agg [D.sl 3 l, D.int IntKind.i64 (Sp.nxt p)]))), (6, Ob.val 5 (V.d (D.agg [D.int IntKind.i64 (7 : Int), D.str [], D.sl 5 [D.agg [D.int IntKind.i64 t.k, D.str t.2, D.sl 5 t.3, D.sl 1 t.4, D.int IntKind.i64 t.pl], D.agg [D.int IntKind.i64 (Sp.trOf p).k, D.str (Sp.trOf p).2, D.sl 5 (Sp.trOf p).3, D.sl 1 (Sp.trOf p).4, D.int IntKind.i64 (Sp.trOf p).pl]], D.sl 1 [], D.int IntKind.i64 t.pl]))), (7, Ob.val 5 (V.d (D.agg [D.int IntKind.i64 u.k, D.str u.2, D.sl 5 u.3, D.sl 1 u.4, D.int IntKind.i64 u.pl])))] (AK cx (T4 k) n 54 1 6 (EK cx 54 1)) else some (Out.pan (V.d (D.iface 79 (D.agg [D.int IntKind.i64 (Sp.bAt p), D.int IntKind.i64 (Sp.bE p)]))), [(0, Ob.val 2 (V.d (D.agg [D.sl 3 l, D.int IntKind.i64 (Sp.nxt p)])))]) else optK (Sp.tok l i) fun p => bif decide (p.fst = (1 : Int)) then optK (Sp.atom k l i v) fun p => bif Sp.okQ p then LP cx (T4 k) n 54 1 6 r [(0, V.ptr 0 0), (1, V.d (D.int IntKind.i64 v)), (5, V.ptr 6 0), (6, V.ptr 7 0)] [(0, Ob.val 2 (V.d (D.agg [D.sl 3 l, D.int IntKind.i64 (Sp.nxt p)]))), (6, Ob.val 5 (V.d (D.agg [D.int IntKind.i64 (6 : Int), D.str [], D.sl 5 [D.agg [D.int IntKind.i64 t.k, D.str t.2, D.sl 5 t.3, D.sl 1 t.4, D.int IntKind.i64 t.pl], D.agg [D.int IntKind.i64 (Sp.trOf p).k, D.str (Sp.trOf p).2, D.sl 5 (Sp.trOf p).3, D.sl 1 (Sp.trOf p).4, D.int IntKind.i64 (Sp.trOf p).pl]], D.sl 1 [], D.int IntKind.i64 t.pl]))), (7, Ob.val 5 (V.d (D.agg [D.int IntKind.i64 u.k, D.str u.2, D.sl 5 u.3, D.sl 1 u.4, D.int IntKind.i64 u.pl])))] (AK cx (T4 k) n 54 1 6 (EK cx 54 1)) else some (Out.pan (V.d (D.iface 79 (D.agg [D.int IntKind.i64 (Sp.bAt p), D.int IntKind.i64 (Sp.bE p)]))), [(0, Ob.val 2 (V.d (D.agg [D.sl 3 l, D.int IntKind.i64 (Sp.nxt p)])))]) else optK (Sp.tok l i) fun p => bif Sp.isS p [40] then optK (Sp.atom k l i v) fun p => bif Sp.okQ p then LP cx (T4 k) n 54 1 6 r [(0, V.ptr 0 0), (1, V.d (D.int IntKind.i64 v)), (5, V.ptr 6 0), (6, V.ptr 7 0)] [(0, Ob.val 2 (V.d (D.agg [D.sl 3 l, D.int IntKind.i64 (Sp.nxt p)]))), (6, Ob.val 5 (V.d (D.agg [D.int IntKind.i64 (6 : Int), D.str [], D.sl 5 [D.agg [D.int IntKind.i64 t.k, D.str t.2, D.sl 5 t.3, D.sl 1 t.4, D.int IntKind.i64 t.pl], D.agg [D.int IntKind.i64 (Sp.trOf p).k, D.str (Sp.trOf p).2, D.sl 5 (Sp.trOf p).3, D.sl 1 (Sp.trOf p).4, D.int IntKind.i64 (Sp.trOf p).pl]], D.sl 1 [], D.int IntKind.i64 t.pl]))), (7, Ob.val 5 (V.d (D.agg [D.int IntKind.i64 u.k, D.str u.2, D.sl 5 u.3, D.sl 1 u.4, D.int IntKind.i64 u.pl])))] (AK cx (T4 k) n 54 1 6 (EK cx 54 1)) else some (Out.pan (V.d (D.iface 79 (D.agg [D.int IntKind.i64 (Sp.bAt p), D.int IntKind.i64 (Sp.bE p)]))), [(0, Ob.val 2 (V.d (D.agg [D.sl 3 l, D.int IntKind.i64 (Sp.nxt p)])))]) else optK (Sp.tok l i) fun p => bif Sp.isS p [91] then optK (Sp.atom k l i v) fun p => bif Sp.okQ p then LP cx (T4 k) n 54 1 6 r [(0, V.ptr 0 0), (1, V.d (D.int IntKind.i64 v)), (5, V.ptr 6 0), (6, V.ptr 7 0)] [(0, Ob.val 2 (V.d (D.agg [D.sl 3 l, D.int IntKind.i64 (Sp.nxt p)]))), (6, Ob.val 5 (V.d (D.agg [D.int IntKind.i64 (6 : Int), D.str [], D.sl 5 [D.agg [D.int IntKind.i64 t.k, D.str t.2, D.sl 5 t.3, D.sl 1 t.4, D.int IntKind.i64 t.pl], D.agg [D.int IntKind.i64 (Sp.trOf p).k, D.str (Sp.trOf p).2, D.sl 5 (Sp.trOf p).3, D.sl 1 (Sp.trOf p).4, D.int IntKind.i64 (Sp.trOf p).pl]], D.sl 1 [], D.int IntKind.i64 t.pl]))), (7, Ob.val 5 (V.d (D.agg [D.int IntKind.i64 u.k, D.str u.2, D.sl 5 u.3, D.sl 1 u.4, D.int IntKind.i64 u.pl])))] (AK cx (T4 k) n 54 1 6 (EK cx 54 1)) else some (Out.pan (V.d (D.iface 79 (D.agg [D.int IntKind.i64 (Sp.bAt p), D.int IntKind.i64 (Sp.bE p)]))), [(0, Ob.val 2 (V.d (D.agg [D.sl 3 l, D.int IntKind.i64 (Sp.nxt p)])))]) else optK (Sp.tok l i) fun p => bif !decide (Sp.arr p = (0 : Int)) then optK (Sp.term k l (IntKind.i64.wrap (i + (1 : Int))) (IntKind.i64.wrap (v + (1 : Int)))) fun p_1 => bif Sp.okQ p_1 then some (Out.ret (V.d (D.agg [D.int IntKind.i64 (Sp.arr p), D.str [], D.sl 5 [D.agg [D.int IntKind.i64 t.k, D.str t.2, D.sl 5 t.3, D.sl 1 t.4, D.int IntKind.i64 t.pl], D.agg [D.int IntKind.i64 (Sp.trOf p_1).k, D.str (Sp.trOf p_1).2, D.sl 5 (Sp.trOf p_1).3, D.sl 1 (Sp.trOf p_1).4, D.int IntKind.i64 (Sp.trOf p_1).pl]], D.sl 1 [], D.int IntKind.i64 t.pl])), [(0, Ob.val 2 (V.d (D.agg [D.sl 3 l, D.int IntKind.i64 (Sp.nxt p_1)])))]) else some (Out.pan (V.d (D.iface 79 (D.agg [D.int IntKind.i64 (Sp.bAt p_1), D.int IntKind.i64 (Sp.bE p_1)]))), [(0, Ob.val 2 (V.d (D.agg [D.sl 3 l, D.int IntKind.i64 (Sp.nxt p_1)])))]) else some (Out.ret (V.d (D.agg [D.int IntKind.i64 t.k, D.str t.2, D.sl 5 t.3, D.sl 1 t.4, D.int IntKind.i64 t.pl])), [(0, Ob.val 2 (V.d (D.agg [D.sl 3 l, D.int IntKind.i64 i])))]) := by kernel_rfl

theorem h102 (n k r : Nat) (l kids : List D) (i a : Int) (u : Tr) : LP cx (T4 k) n 102 1 5 (r + 1) [(0, V.ptr 0 0), (2, V.ptr 3 0), (3, V.ptr 4 0)] [(0, Ob.val 2 (V.d (D.agg [D.sl 3 l, D.int IntKind.i64 i]))), (3, Ob.val 5 (V.d (trD u))), (4, Ob.val 5 (V.agg [V.d (D.int IntKind.i64 (12 : Int)), V.d (D.str []), V.sl 5 kids 10, V.d (D.sl 1 []), V.d (D.int IntKind.i64 a)])), (10, Ob.tok kids.length)] (AK cx (T4 k) n 102 1 5 (EK cx 102 1)) = optK (Sp.tok l i) fun p => optK (Sp.tok l i) fun p_1 => bif Sp.isS p_1 [40] then optK (Sp.tok l (up i)) fun p_2 => bif decide (p_2.fst = 1) then optK (Sp.tok l (up (up i))) fun p_3 => bif Sp.isS p_3 [61] then optK (Sp.tok l (up (up (up i)))) fun p_4 => bif !Sp.isS p_4 [48] then optK (Sp.tok l (up (up (up i)))) fun p_5 => bif !Sp.isS p_5 [49] then optK (Sp.tok l (up (up (up i)))) fun p => some (Out.pan (V.d (D.iface 79 (D.agg [D.int IntKind.i64 p.snd.snd, D.int IntKind.i64 (61 : Int)]))), [(0, Ob.val 2 (V.d (D.agg [D.sl 3 l, D.int IntKind.i64 (up (up (up i)))])))]) else optK (Sp.tok l (up (up (up i)))) fun p_6 => optK (Sp.tok l (up (up (up (up i))))) fun p_7 => bif Sp.isS p_7 [41] then must (decide (kids.length = kids.length) && decide (kids.length + [D.agg [D.int IntKind.i64 (13 : Int), D.str p_2.snd.1, D.sl 5 [], D.sl 1 [D.str p_6.snd.1], D.int IntKind.i64 p.snd.snd]].length ≤ 4294967296)) (optK (Sp.tok l (up (up (up (up (up i)))))) fun p_8 => bif !Sp.isS p_8 [40] then some (Out.ret (V.d (D.agg [D.int IntKind.i64 (12 : Int), D.str [], D.sl 5 (kids ++ [D.agg [D.int IntKind.i64 (13 : Int), D.str p_2.snd.1, D.sl 5 [], D.sl 1 [D.str p_6.snd.1], D.int IntKind.i64 p.snd.snd]]), D.sl 1 [], D.int IntKind.i64 a])), [(0, Ob.val 2 (V.d (D.agg [D.sl 3 l, D.int IntKind.i64 (up (up (up (up (up i)))))])))]) else LP cx (T4 k) n 102 1 5 r [(0, V.ptr 0 0), (2, V.ptr 3 0), (3, V.ptr 4 0)] [(0, Ob.val 2 (V.d (D.agg [D.sl 3 l, D.int IntKind.i64 (up (up (up (up (up i)))))]))), (3, Ob.val 5 (V.d (D.agg [D.int IntKind.i64 u.k, D.str u.2, D.sl 5 u.3, D.sl 1 u.4, D.int IntKind.i64 u.pl]))), (4, Ob.val 5 (V.agg [V.d (D.int IntKind.i64 (12 : Int)), V.d (D.str []), V.sl 5 (kids ++ [D.agg [D.int IntKind.i64 (13 : Int), D.str p_2.snd.1, D.sl 5 [], D.sl 1 [D.str p_6.snd.1], D.int IntKind.i64 p.snd.snd]]) 10, V.d (D.sl 1 []), V.d (D.int IntKind.i64 a)])), (10, Ob.tok (kids.length + [D.agg [D.int IntKind.i64 (13 : Int), D.str p_2.snd.1, D.sl 5 [], D.sl 1 [D.str p_6.snd.1], D.int IntKind.i64 p.snd.snd]].length))] (AK cx (T4 k) n 102 1 5 (EK cx 102 1))) else some (Out.pan (V.d (D.iface 79 (D.agg [D.int IntKind.i64 p_7.snd.snd, D.int IntKind.i64 (61 : Int)]))), [(0, Ob.val 2 (V.d (D.agg [D.sl 3 l, D.int IntKind.i64 (up (up (up (up i))))])))]) else optK (Sp.tok l (up (up (up i)))) fun p_5 => optK (Sp.tok l (up (up (up (up i))))) fun p_6 => bif Sp.isS p_6 [41] then must (decide (kids.length = kids.length) && decide (kids.length + [D.agg [D.int IntKind.i64 (13 : Int), D.str p_2.snd.1, D.sl 5 [], D.sl 1 [D.str p_5.snd.1], D.int IntKind.i64 p.snd.snd]].length ≤ 4294967296)) (optK (Sp.tok l (up (up (up (up (up i)))))) fun p_7 => bif !Sp.isS p_7 [40] then some (Out.ret (V.d (D.agg [D.int IntKind.i64 (12 : Int), D.str [], D.sl 5 (kids ++ [D.agg [D.int IntKind.i64 (13 : Int), D.str p_2.snd.1, D.sl 5 [], D.sl 1 [D.str p_5.snd.1], D.int IntKind.i64 p.snd.snd]]), D.sl 1 [], D.int IntKind.i64 a])), [(0, Ob.val 2 (V.d (D.agg [D.sl 3 l, D.int IntKind.i64 (up (up (up (up (up i)))))])))]) else LP cx (T4 k) n 102 1 5 r [(0, V.ptr 0 0), (2, V.ptr 3 0), (3, V.ptr 4 0)] [(0, Ob.val 2 (V.d (D.agg [D.sl 3 l, D.int IntKind.i64 (up (up (up (up (up i)))))]))), (3, Ob.val 5 (V.d (D.agg [D.int IntKind.i64 u.k, D.str u.2, D.sl 5 u.3, D.sl 1 u.4, D.int IntKind.i64 u.pl]))), (4, Ob.val 5 (V.agg [V.d (D.int IntKind.i64 (12 : Int)), V.d (D.str []), V.sl 5 (kids ++ [D.agg [D.int IntKind.i64 (13 : Int), D.str p_2.snd.1, D.sl 5 [], D.sl 1 [D.str p_5.snd.1], D.int IntKind.i64 p.snd.snd]]) 10, V.d (D.sl 1 []), V.d (D.int IntKind.i64 a)])), (10, Ob.tok (kids.length + [D.agg [D.int IntKind.i64 (13 : Int), D.str p_2.snd.1, D.sl 5 [], D.sl 1 [D.str p_5.snd.1], D.int IntKind.i64 p.snd.snd]].length))] (AK cx (T4 k) n 102 1 5 (EK cx 102 1))) else some (Out.pan (V.d (D.iface 79 (D.agg [D.int IntKind.i64 p_6.snd.snd, D.int IntKind.i64 (61 : Int)]))), [(0, Ob.val 2 (V.d (D.agg [D.sl 3 l, D.int IntKind.i64 (up (up (up (up i))))])))]) else some (Out.pan (V.d (D.iface 79 (D.agg [D.int IntKind.i64 p_3.snd.snd, D.int IntKind.i64 (61 : Int)]))), [(0, Ob.val 2 (V.d (D.agg [D.sl 3 l, D.int IntKind.i64 (up (up i))])))]) else some (Out.pan (V.d (D.iface 79 (D.agg [D.int IntKind.i64 p_2.snd.snd, D.int IntKind.i64 (61 : Int)]))), [(0, Ob.val 2 (V.d (D.agg [D.sl 3 l, D.int IntKind.i64 (up i)])))]) else some (Out.pan (V.d (D.iface 79 (D.agg [D.int IntKind.i64 p_1.snd.snd, D.int IntKind.i64 (61 : Int)]))), [(0, Ob.val 2 (V.d (D.agg [D.sl 3 l, D.int IntKind.i64 i])))]) := by kernel_rfl

theorem h81 (n k r : Nat) (l kids : List D) (i v a : Int) (u : Tr) : LP cx (T4 k) n 81 1 2 (r + 1) [(0, V.ptr 0 0), (1, V.d (D.int IntKind.i64 v)), (4, V.ptr 5 0), (5, V.ptr 6 0)] [(0, Ob.val 2 (V.d (D.agg [D.sl 3 l, D.int IntKind.i64 i]))), (5, Ob.val 5 (V.d (trD u))), (6, Ob.val 5 (V.agg [V.d (D.int IntKind.i64 (10 : Int)), V.d (D.str []), V.sl 5 kids 11, V.d (D.sl 1 []), V.d (D.int IntKind.i64 a)])), (11, Ob.tok kids.length)] (AK cx (T4 k) n 81 1 2 (EK cx 81 1)) = optK (Sp.tok l i) fun p => bif !Sp.isS p [93] then bif decide ((0 : Int) < (↑kids.length : Int)) then optK (Sp.tok l i) fun p => bif Sp.isS p [44] then optK (Sp.tok l (up i)) fun p => optK (Sp.face k l (up i)) fun p_1 => bif Sp.okQ p_1 then optK (Sp.tok l (Sp.nxt p_1)) fun p_2 => bif Sp.isS p_2 [45, 62] then optK (Sp.term k l (IntKind.i64.wrap (Sp.nxt p_1 + (1 : Int))) (IntKind.i64.wrap (v + (1 : Int)))) fun p_3 => bif Sp.okQ p_3 then must (decide (kids.length = kids.length) && decide (kids.length + [D.agg [D.int IntKind.i64 (11 : Int), D.str [], D.sl 5 [D.agg [D.int IntKind.i64 (Sp.trOf p_1).k, D.str (Sp.trOf p_1).2, D.sl 5 (Sp.trOf p_1).3, D.sl 1 (Sp.trOf p_1).4, D.int IntKind.i64 (Sp.trOf p_1).pl], D.agg [D.int IntKind.i64 (Sp.trOf p_3).k, D.str (Sp.trOf p_3).2, D.sl 5 (Sp.trOf p_3).3, D.sl 1 (Sp.trOf p_3).4, D.int IntKind.i64 (Sp.trOf p_3).pl]], D.sl 1 [], D.int IntKind.i64 p.snd.snd]].length ≤ 4294967296)) (LP cx (T4 k) n 81 1 2 r [(0, V.ptr 0 0), (1, V.d (D.int IntKind.i64 v)), (4, V.ptr 5 0), (5, V.ptr 6 0)] [(0, Ob.val 2 (V.d (D.agg [D.sl 3 l, D.int IntKind.i64 (Sp.nxt p_3)]))), (5, Ob.val 5 (V.d (D.agg [D.int IntKind.i64 u.k, D.str u.2, D.sl 5 u.3, D.sl 1 u.4, D.int IntKind.i64 u.pl]))), (6, Ob.val 5 (V.agg [V.d (D.int IntKind.i64 (10 : Int)), V.d (D.str []), V.sl 5 (kids ++ [D.agg [D.int IntKind.i64 (11 : Int), D.str [], D.sl 5 [D.agg [D.int IntKind.i64 (Sp.trOf p_1).k, D.str (Sp.trOf p_1).2, D.sl 5 (Sp.trOf p_1).3, D.sl 1 (Sp.trOf p_1).4, D.int IntKind.i64 (Sp.trOf p_1).pl], D.agg [D.int IntKind.i64 (Sp.trOf p_3).k, D.str (Sp.trOf p_3).2, D.sl 5 (Sp.trOf p_3).3, D.sl 1 (Sp.trOf p_3).4, D.int IntKind.i64 (Sp.trOf p_3).pl]], D.sl 1 [], D.int IntKind.i64 p.snd.snd]]) 11, V.d (D.sl 1 []), V.d (D.int IntKind.i64 a)])), (11, Ob.tok (kids.length + [D.agg [D.int IntKind.i64 (11 : Int), D.str [], D.sl 5 [D.agg [D.int IntKind.i64 (Sp.trOf p_1).k, D.str (Sp.trOf p_1).2, D.sl 5 (Sp.trOf p_1).3, D.sl 1 (Sp.trOf p_1).4, D.int IntKind.i64 (Sp.trOf p_1).pl], D.agg [D.int IntKind.i64 (Sp.trOf p_3).k, D.str (Sp.trOf p_3).2, D.sl 5 (Sp.trOf p_3).3, D.sl 1 (Sp.trOf p_3).4, D.int IntKind.i64 (Sp.trOf p_3).pl]], D.sl 1 [], D.int IntKind.i64 p.snd.snd]].length))] (AK cx (T4 k) n 81 1 2 (EK cx 81 1))) else some (Out.pan (V.d (D.iface 79 (D.agg [D.int IntKind.i64 (Sp.bAt p_3), D.int IntKind.i64 (Sp.bE p_3)]))), [(0, Ob.val 2 (V.d (D.agg [D.sl 3 l, D.int IntKind.i64 (Sp.nxt p_3)])))]) else must (decide (kids.length = kids.length) && decide (kids.length + [D.agg [D.int IntKind.i64 (11 : Int), D.str [], D.sl 5 [D.agg [D.int IntKind.i64 (Sp.trOf p_1).k, D.str (Sp.trOf p_1).2, D.sl 5 (Sp.trOf p_1).3, D.sl 1 (Sp.trOf p_1).4, D.int IntKind.i64 (Sp.trOf p_1).pl]], D.sl 1 [], D.int IntKind.i64 p.snd.snd]].length ≤ 4294967296)) (LP cx (T4 k) n 81 1 2 r [(0, V.ptr 0 0), (1, V.d (D.int IntKind.i64 v)), (4, V.ptr 5 0), (5, V.ptr 6 0)] [(0, Ob.val 2 (V.d (D.agg [D.sl 3 l, D.int IntKind.i64 (Sp.nxt p_1)]))), (5, Ob.val 5 (V.d (D.agg [D.int IntKind.i64 u.k, D.str u.2, D.sl 5 u.3, D.sl 1 u.4, D.int IntKind.i64 u.pl]))), (6, Ob.val 5 (V.agg [V.d (D.int IntKind.i64 (10 : Int)), V.d (D.str []), V.sl 5 (kids ++ [D.agg [D.int IntKind.i64 (11 : Int), D.str [], D.sl 5 [D.agg [D.int IntKind.i64 (Sp.trOf p_1).k, D.str (Sp.trOf p_1).2, D.sl 5 (Sp.trOf p_1).3, D.sl 1 (Sp.trOf p_1).4, D.int IntKind.i64 (Sp.trOf p_1).pl]], D.sl 1 [], D.int IntKind.i64 p.snd.snd]]) 11, V.d (D.sl 1 []), V.d (D.int IntKind.i64 a)])), (11, Ob.tok (kids.length + [D.agg [D.int IntKind.i64 (11 : Int), D.str [], D.sl 5 [D.agg [D.int IntKind.i64 (Sp.trOf p_1).k, D.str (Sp.trOf p_1).2, D.sl 5 (Sp.trOf p_1).3, D.sl 1 (Sp.trOf p_1).4, D.int IntKind.i64 (Sp.trOf p_1).pl]], D.sl 1 [], D.int IntKind.i64 p.snd.snd]].length))] (AK cx (T4 k) n 81 1 2 (EK cx 81 1))) else some (Out.pan (V.d (D.iface 79 (D.agg [D.int IntKind.i64 (Sp.bAt p_1), D.int IntKind.i64 (Sp.bE p_1)]))), [(0, Ob.val 2 (V.d (D.agg [D.sl 3 l, D.int IntKind.i64 (Sp.nxt p_1)])))]) else some (Out.pan (V.d (D.iface 79 (D.agg [D.int IntKind.i64 p.snd.snd, D.int IntKind.i64 (61 : Int)]))), [(0, Ob.val 2 (V.d (D.agg [D.sl 3 l, D.int IntKind.i64 i])))]) else optK (Sp.tok l i) fun p => optK (Sp.face k l i) fun p_1 => bif Sp.okQ p_1 then optK (Sp.tok l (Sp.nxt p_1)) fun p_2 => bif Sp.isS p_2 [45, 62] then optK (Sp.term k l (IntKind.i64.wrap (Sp.nxt p_1 + (1 : Int))) (IntKind.i64.wrap (v + (1 : Int)))) fun p_3 => bif Sp.okQ p_3 then must (decide (kids.length = kids.length) && decide (kids.length + [D.agg [D.int IntKind.i64 (11 : Int), D.str [], D.sl 5 [D.agg [D.int IntKind.i64 (Sp.trOf p_1).k, D.str (Sp.trOf p_1).2, D.sl 5 (Sp.trOf p_1).3, D.sl 1 (Sp.trOf p_1).4, D.int IntKind.i64 (Sp.trOf p_1).pl], D.agg [D.int IntKind.i64 (Sp.trOf p_3).k, D.str (Sp.trOf p_3).2, D.sl 5 (Sp.trOf p_3).3, D.sl 1 (Sp.trOf p_3).4, D.int IntKind.i64 (Sp.trOf p_3).pl]], D.sl 1 [], D.int IntKind.i64 p.snd.snd]].length ≤ 4294967296)) (LP cx (T4 k) n 81 1 2 r [(0, V.ptr 0 0), (1, V.d (D.int IntKind.i64 v)), (4, V.ptr 5 0), (5, V.ptr 6 0)] [(0, Ob.val 2 (V.d (D.agg [D.sl 3 l, D.int IntKind.i64 (Sp.nxt p_3)]))), (5, Ob.val 5 (V.d (D.agg [D.int IntKind.i64 u.k, D.str u.2, D.sl 5 u.3, D.sl 1 u.4, D.int IntKind.i64 u.pl]))), (6, Ob.val 5 (V.agg [V.d (D.int IntKind.i64 (10 : Int)), V.d (D.str []), V.sl 5 (kids ++ [D.agg [D.int IntKind.i64 (11 : Int), D.str [], D.sl 5 [D.agg [D.int IntKind.i64 (Sp.trOf p_1).k, D.str (Sp.trOf p_1).2, D.sl 5 (Sp.trOf p_1).3, D.sl 1 (Sp.trOf p_1).4, D.int IntKind.i64 (Sp.trOf p_1).pl], D.agg [D.int IntKind.i64 (Sp.trOf p_3).k, D.str (Sp.trOf p_3).2, D.sl 5 (Sp.trOf p_3).3, D.sl 1 (Sp.trOf p_3).4, D.int IntKind.i64 (Sp.trOf p_3).pl]], D.sl 1 [], D.int IntKind.i64 p.snd.snd]]) 11, V.d (D.sl 1 []), V.d (D.int IntKind.i64 a)])), (11, Ob.tok (kids.length + [D.agg [D.int IntKind.i64 (11 : Int), D.str [], D.sl 5 [D.agg [D.int IntKind.i64 (Sp.trOf p_1).k, D.str (Sp.trOf p_1).2, D.sl 5 (Sp.trOf p_1).3, D.sl 1 (Sp.trOf p_1).4, D.int IntKind.i64 (Sp.trOf p_1).pl], D.agg [D.int IntKind.i64 (Sp.trOf p_3).k, D.str (Sp.trOf p_3).2, D.sl 5 (Sp.trOf p_3).3, D.sl 1 (Sp.trOf p_3).4, D.int IntKind.i64 (Sp.trOf p_3).pl]], D.sl 1 [], D.int IntKind.i64 p.snd.snd]].length))] (AK cx (T4 k) n 81 1 2 (EK cx 81 1))) else some (Out.pan (V.d (D.iface 79 (D.agg [D.int IntKind.i64 (Sp.bAt p_3), D.int IntKind.i64 (Sp.bE p_3)]))), [(0, Ob.val 2 (V.d (D.agg [D.sl 3 l, D.int IntKind.i64 (Sp.nxt p_3)])))]) else must (decide (kids.length = kids.length) && decide (kids.length + [D.agg [D.int IntKind.i64 (11 : Int), D.str [], D.sl 5 [D.agg [D.int IntKind.i64 (Sp.trOf p_1).k, D.str (Sp.trOf p_1).2, D.sl 5 (Sp.trOf p_1).3, D.sl 1 (Sp.trOf p_1).4, D.int IntKind.i64 (Sp.trOf p_1).pl]], D.sl 1 [], D.int IntKind.i64 p.snd.snd]].length ≤ 4294967296)) (LP cx (T4 k) n 81 1 2 r [(0, V.ptr 0 0), (1, V.d (D.int IntKind.i64 v)), (4, V.ptr 5 0), (5, V.ptr 6 0)] [(0, Ob.val 2 (V.d (D.agg [D.sl 3 l, D.int IntKind.i64 (Sp.nxt p_1)]))), (5, Ob.val 5 (V.d (D.agg [D.int IntKind.i64 u.k, D.str u.2, D.sl 5 u.3, D.sl 1 u.4, D.int IntKind.i64 u.pl]))), (6, Ob.val 5 (V.agg [V.d (D.int IntKind.i64 (10 : Int)), V.d (D.str []), V.sl 5 (kids ++ [D.agg [D.int IntKind.i64 (11 : Int), D.str [], D.sl 5 [D.agg [D.int IntKind.i64 (Sp.trOf p_1).k, D.str (Sp.trOf p_1).2, D.sl 5 (Sp.trOf p_1).3, D.sl 1 (Sp.trOf p_1).4, D.int IntKind.i64 (Sp.trOf p_1).pl]], D.sl 1 [], D.int IntKind.i64 p.snd.snd]]) 11, V.d (D.sl 1 []), V.d (D.int IntKind.i64 a)])), (11, Ob.tok (kids.length + [D.agg [D.int IntKind.i64 (11 : Int), D.str [], D.sl 5 [D.agg [D.int IntKind.i64 (Sp.trOf p_1).k, D.str (Sp.trOf p_1).2, D.sl 5 (Sp.trOf p_1).3, D.sl 1 (Sp.trOf p_1).4, D.int IntKind.i64 (Sp.trOf p_1).pl]], D.sl 1 [], D.int IntKind.i64 p.snd.snd]].length))] (AK cx (T4 k) n 81 1 2 (EK cx 81 1))) else some (Out.pan (V.d (D.iface 79 (D.agg [D.int IntKind.i64 (Sp.bAt p_1), D.int IntKind.i64 (Sp.bE p_1)]))), [(0, Ob.val 2 (V.d (D.agg [D.sl 3 l, D.int IntKind.i64 (Sp.nxt p_1)])))]) else some (Out.ret (V.d (D.agg [D.int IntKind.i64 (10 : Int), D.str [], D.sl 5 kids, D.sl 1 [], D.int IntKind.i64 a])), [(0, Ob.val 2 (V.d (D.agg [D.sl 3 l, D.int IntKind.i64 (IntKind.i64.wrap (i + (1 : Int)))])))]) := by kernel_rfl

theorem g55 (n : Nat) (l : List D) (k a : Int) : evBody cx T3 n 55 [.d (.int .i64 k), .d (.int .i64 a), .d (.sl 5 l)] [] = some (Out.ret (V.d (D.agg [D.int IntKind.i64 k, D.str [], D.sl 5 l, D.sl 1 [], D.int IntKind.i64 a])), []) := by kernel_rfl

theorem g55k (n m : Nat) (l : List D) (k a : Int) : evBody cx T3 n 55 [.d (.int .i64 k), .d (.int .i64 a), .sl 5 l 0] [(0, .tok m)] = some (Out.ret (V.agg [V.d (D.int IntKind.i64 k), V.d (D.str []), V.sl 5 l 0, V.d (D.sl 1 []), V.d (D.int IntKind.i64 a)]), [(0, Ob.tok m)]) := by kernel_rfl

theorem optK_congr {α R : Type} {o : Option α} {F G : α → Option R} (h : ∀ x, o = some x → F x = G x) : optK o F = optK o G := by
  cases o with
  | none => rfl
  | some x => exact h x rfl
theorem optK_now {α R : Type} {x : α} {F : α → Option R} : optK (some x) F = F x := rfl
theorem cond_congr {R : Type} {c : Bool} {a b a' b' : Option R} (h : c = true → a = a') (h' : c = false → b = b') : (bif c then a else b) = bif c then a' else b' := by
  cases c
  · exact h' rfl
  · exact h rfl
theorem must_congr {R : Type} {c : Bool} {a a' : Option R} (h : a = a') : must c a = must c a' := by rw [h]
theorem c_not {R : Type} {c : Bool} {a b : Option R} : (bif !c then a else b) = bif c then b else a := by cases c <;> rfl
theorem c_or {R : Type} {c d : Bool} {a b : Option R} : (bif c || d then a else b) = bif c then a else bif d then a else b := by cases c <;> rfl
theorem short_eq2 (l : List D) (x : D) : decide (l.length + [x].length ≤ 4294967296) = Sp.short l := by
  unfold Sp.short
  simp only [List.length_singleton]
  exact decide_eq_decide.2 (by omega)
theorem t_names (k : Nat) (l : List D) (i : Int) : (Sp.tbl k).names l i = Sp.names k l i := rfl
theorem t_face (k : Nat) (l : List D) (i : Int) : (Sp.tbl k).face l i = Sp.face k l i := rfl
theorem t_term (k : Nat) (l : List D) (i v : Int) : (Sp.tbl k).term l i v = Sp.term k l i v := rfl
theorem t_after (k : Nat) (l : List D) (i v : Int) (t : Tr) : (Sp.tbl k).after l i v t = Sp.after k l i v t := rfl
theorem t_atom (k : Nat) (l : List D) (i v : Int) : (Sp.tbl k).atom l i v = Sp.atom k l i v := rfl
theorem t_box (k : Nat) (l : List D) (i v : Int) : (Sp.tbl k).box l i v = Sp.box k l i v := rfl
theorem t_join (k : Nat) (l : List D) (i v : Int) : (Sp.tbl k).join l i v = Sp.join k l i v := rfl
theorem t_meet (k : Nat) (l : List D) (i v : Int) : (Sp.tbl k).meet l i v = Sp.meet k l i v := rfl
theorem t_dim (k : Nat) (l : List D) (i v : Int) : (Sp.tbl k).dim l i v = Sp.dim k l i v := rfl

theorem s25 (n k : Nat) (l : List D) (i v : Int) : evBody cx (T4 k) n 25 [.ptr 0 0, .d (.int .i64 v)] (rdSt l i) = prGo (Sp.termG (Sp.tbl k) l i v) fun o j => some (o, rdSt l j) := by
  rw [g25]
  unfold prGo Sp.termG Sp.callN Sp.want Sp.call
  simp only [optK_optK, optK_cond, optK_must, optK_now, t_names, t_face, t_term, t_after, t_atom, t_box, t_join, t_meet, t_dim, c_not, c_or, decide_true, Bool.true_and, short_eq2]
  cases hp : Sp.tok l i with
  | none => first | rfl | (simp only [optK]; done) | (simp only [optK]; cases decide (200 < v) <;> rfl)
  | some p =>
    simp only [hp, optK_now]
    repeat' (first | (with_reducible refine optK_congr fun x hx => ?_; try simp only [hx, optK_now]) | (with_reducible refine cond_congr (fun h => ?_) (fun h => ?_) <;> try simp only [h, cond_true, cond_false, optK_now]) | (with_reducible refine must_congr ?_) | rfl)

theorem s56 (n k : Nat) (l : List D) (i v : Int) : evBody cx (T4 k) n 56 [.ptr 0 0, .d (.int .i64 v)] (rdSt l i) = prGo (Sp.atomG (Sp.tbl k) l i v) fun o j => some (o, rdSt l j) := by
  rw [g56]
  unfold prGo Sp.atomG Sp.want Sp.call
  simp only [optK_optK, optK_cond, optK_must, optK_now, t_names, t_face, t_term, t_after, t_atom, t_box, t_join, t_meet, t_dim, c_not, c_or, decide_true, Bool.true_and, short_eq2]
  cases hp : Sp.tok l i with
  | none => first | rfl | (simp only [optK]; done) | (simp only [optK]; cases decide (200 < v) <;> rfl)
  | some p =>
    simp only [hp, optK_now]
    repeat' (first | (with_reducible refine optK_congr fun x hx => ?_; try simp only [hx, optK_now]) | (with_reducible refine cond_congr (fun h => ?_) (fun h => ?_) <;> try simp only [h, cond_true, cond_false, optK_now]) | (with_reducible refine must_congr ?_) | rfl)

theorem s80 (n k : Nat) (l : List D) (i v : Int) : evBody cx (T4 k) n 80 [.ptr 0 0, .d (.int .i64 v)] (rdSt l i) = prGo (Sp.dimG (Sp.tbl k) l i v) fun o j => some (o, rdSt l j) := by
  rw [g80]
  unfold prGo Sp.dimG Sp.want Sp.call
  simp only [optK_optK, optK_cond, optK_must, optK_now, t_names, t_face, t_term, t_after, t_atom, t_box, t_join, t_meet, t_dim, c_not, c_or, decide_true, Bool.true_and, short_eq2]
  cases hp : Sp.tok l i with
  | none => first | rfl | (simp only [optK]; done) | (simp only [optK]; cases decide (200 < v) <;> rfl)
  | some p =>
    simp only [hp, optK_now]
    repeat' (first | (with_reducible refine optK_congr fun x hx => ?_; try simp only [hx, optK_now]) | (with_reducible refine cond_congr (fun h => ?_) (fun h => ?_) <;> try simp only [h, cond_true, cond_false, optK_now]) | (with_reducible refine must_congr ?_) | rfl)

theorem s28 (n k : Nat) (l : List D) (i : Int) : evBody cx (T4 k) n 28 [.ptr 0 0] (rdSt l i) = prGo (Sp.declG (Sp.tbl k) l i) fun o j => some (o, rdSt l j) := by
  rw [g28]
  unfold prGo Sp.declG Sp.name Sp.want Sp.call
  simp only [optK_optK, optK_cond, optK_must, optK_now, t_names, t_face, t_term, t_after, t_atom, t_box, t_join, t_meet, t_dim, c_not, c_or, decide_true, Bool.true_and, short_eq2]
  cases hp : Sp.tok l i with
  | none => first | rfl | (simp only [optK]; done) | (simp only [optK]; cases decide (200 < v) <;> rfl)
  | some p =>
    simp only [hp, optK_now]
    repeat' (first | (with_reducible refine optK_congr fun x hx => ?_; try simp only [hx, optK_now]) | (with_reducible refine cond_congr (fun h => ?_) (fun h => ?_) <;> try simp only [h, cond_true, cond_false, optK_now]) | (with_reducible refine must_congr ?_) | rfl)

theorem u101 (n k : Nat) (l : List D) (v : Int) : ∀ (r : Nat) (i : Int) (t u : Tr), LP cx (T4 k) n 101 1 2 r [(0, V.ptr 0 0), (1, V.d (D.int IntKind.i64 v)), (4, V.ptr 5 0), (5, V.ptr 6 0)] [(0, Ob.val 2 (V.d (D.agg [D.sl 3 l, D.int IntKind.i64 i]))), (5, Ob.val 5 (V.d (trD u))), (6, Ob.val 5 (V.d (trD t)))] (AK cx (T4 k) n 101 1 2 (EK cx 101 1)) = prGo (Sp.joinL (Sp.tbl k) r l i v t) fun o j => some (o, rdSt l j)
  | 0, i, t, u => rfl
  | r + 1, i, t, u => by
    rw [h101]
    unfold prGo Sp.joinL
    simp only [Sp.call]
    simp only [optK_optK, optK_cond, optK_must, optK_now, t_names, t_face, t_term, t_after, t_atom, t_box, t_join, t_meet, t_dim, c_not, c_or, decide_true, Bool.true_and, short_eq2]
    repeat' (first | (exact u101 n k l v r _ ⟨14, [], [trD t, trD (Sp.trOf _)], [], t.pl⟩ u) | (with_reducible refine optK_congr fun x hx => ?_; try simp only [hx, optK_now]) | (with_reducible refine cond_congr (fun h => ?_) (fun h => ?_) <;> try simp only [h, cond_true, cond_false, optK_now]) | (with_reducible refine must_congr ?_) | rfl)

theorem u110 (n k : Nat) (l : List D) (v : Int) : ∀ (r : Nat) (i : Int) (t u : Tr), LP cx (T4 k) n 110 1 2 r [(0, V.ptr 0 0), (1, V.d (D.int IntKind.i64 v)), (4, V.ptr 5 0), (5, V.ptr 6 0)] [(0, Ob.val 2 (V.d (D.agg [D.sl 3 l, D.int IntKind.i64 i]))), (5, Ob.val 5 (V.d (trD u))), (6, Ob.val 5 (V.d (trD t)))] (AK cx (T4 k) n 110 1 2 (EK cx 110 1)) = prGo (Sp.meetL (Sp.tbl k) r l i v t) fun o j => some (o, rdSt l j)
  | 0, i, t, u => rfl
  | r + 1, i, t, u => by
    rw [h110]
    unfold prGo Sp.meetL
    simp only [Sp.call]
    simp only [optK_optK, optK_cond, optK_must, optK_now, t_names, t_face, t_term, t_after, t_atom, t_box, t_join, t_meet, t_dim, c_not, c_or, decide_true, Bool.true_and, short_eq2]
    repeat' (first | (exact u110 n k l v r _ ⟨15, [], [trD t, trD (Sp.trOf _)], [], t.pl⟩ u) | (with_reducible refine optK_congr fun x hx => ?_; try simp only [hx, optK_now]) | (with_reducible refine cond_congr (fun h => ?_) (fun h => ?_) <;> try simp only [h, cond_true, cond_false, optK_now]) | (with_reducible refine must_congr ?_) | rfl)

theorem u54 (n k : Nat) (l : List D) (v : Int) : ∀ (r : Nat) (i : Int) (t u : Tr), LP cx (T4 k) n 54 1 6 r [(0, V.ptr 0 0), (1, V.d (D.int IntKind.i64 v)), (5, V.ptr 6 0), (6, V.ptr 7 0)] [(0, Ob.val 2 (V.d (D.agg [D.sl 3 l, D.int IntKind.i64 i]))), (6, Ob.val 5 (V.d (trD t))), (7, Ob.val 5 (V.d (trD u)))] (AK cx (T4 k) n 54 1 6 (EK cx 54 1)) = prGo (Sp.afterG (Sp.tbl k) r l i v t) fun o j => some (o, rdSt l j)
  | 0, i, t, u => rfl
  | r + 1, i, t, u => by
    rw [h54]
    unfold prGo Sp.afterG
    simp only [Sp.call]
    simp only [optK_optK, optK_cond, optK_must, optK_now, t_names, t_face, t_term, t_after, t_atom, t_box, t_join, t_meet, t_dim, c_not, c_or, decide_true, Bool.true_and, short_eq2]
    repeat' (first | (exact u54 n k l v r _ ⟨7, [], [trD t, trD (Sp.trOf _)], [], t.pl⟩ u) | (exact u54 n k l v r _ ⟨6, [], [trD t, trD (Sp.trOf _)], [], t.pl⟩ u) | (with_reducible refine optK_congr fun x hx => ?_; try simp only [hx, optK_now]) | (with_reducible refine cond_congr (fun h => ?_) (fun h => ?_) <;> try simp only [h, cond_true, cond_false, optK_now]) | (with_reducible refine must_congr ?_) | rfl)

theorem u49 (n k : Nat) (l : List D)  : ∀ (r : Nat) (i : Int) (ns : List D), LP cx (T4 k) n 49 1 2 r [(0, V.ptr 0 0), (3, V.sl 1 ns 7)] [(0, Ob.val 2 (V.d (D.agg [D.sl 3 l, D.int IntKind.i64 i]))), (7, Ob.tok ns.length)] (AK cx (T4 k) n 49 1 2 (EK cx 49 1)) = optK (Sp.namesL r l i ns) fun p => bif Sp.okN p then some (.ret (.d (.sl 1 (Sp.lN p))), rdSt l (Sp.nxtN p)) else some (.pan (wrongV (Sp.bAtN p) (Sp.bEN p)), rdSt l (Sp.nxtN p))
  | 0, _, _ => rfl
  | r + 1, i, ns => by
    rw [h49]
    skip
    simp only [Sp.namesL]
    simp only [optK_optK, optK_cond, optK_must, optK_now, t_names, t_face, t_term, t_after, t_atom, t_box, t_join, t_meet, t_dim, c_not, c_or, decide_true, Bool.true_and, short_eq2]
    try simp only [← List.length_append]
    repeat' (first | (exact u49 n k l r _ _) | (with_reducible refine optK_congr fun x hx => ?_; try simp only [hx, optK_now]) | (with_reducible refine cond_congr (fun h => ?_) (fun h => ?_) <;> try simp only [h, cond_true, cond_false, optK_now]) | (with_reducible refine must_congr ?_) | rfl)

theorem u102 (n k : Nat) (l : List D) (a : Int) (u : Tr) : ∀ (r : Nat) (i : Int) (kids : List D), LP cx (T4 k) n 102 1 5 r [(0, V.ptr 0 0), (2, V.ptr 3 0), (3, V.ptr 4 0)] [(0, Ob.val 2 (V.d (D.agg [D.sl 3 l, D.int IntKind.i64 i]))), (3, Ob.val 5 (V.d (trD u))), (4, Ob.val 5 (V.agg [V.d (D.int IntKind.i64 (12 : Int)), V.d (D.str []), V.sl 5 kids 10, V.d (D.sl 1 []), V.d (D.int IntKind.i64 a)])), (10, Ob.tok kids.length)] (AK cx (T4 k) n 102 1 5 (EK cx 102 1)) = prGo (Sp.faceL r l i kids a) fun o j => some (o, rdSt l j)
  | 0, _, _ => rfl
  | r + 1, i, kids => by
    rw [h102]
    unfold prGo
    simp only [Sp.faceL, Sp.name, Sp.want, Sp.call]
    simp only [optK_optK, optK_cond, optK_must, optK_now, t_names, t_face, t_term, t_after, t_atom, t_box, t_join, t_meet, t_dim, c_not, c_or, decide_true, Bool.true_and, short_eq2]
    try simp only [← List.length_append]
    repeat' (first | (exact u102 n k l a u r _ _) | (with_reducible refine optK_congr fun x hx => ?_; try simp only [hx, optK_now]) | (with_reducible refine cond_congr (fun h => ?_) (fun h => ?_) <;> try simp only [h, cond_true, cond_false, optK_now]) | (with_reducible refine must_congr ?_) | rfl)

theorem u81 (n k : Nat) (l : List D) (v a : Int) (u : Tr) : ∀ (r : Nat) (i : Int) (kids : List D), LP cx (T4 k) n 81 1 2 r [(0, V.ptr 0 0), (1, V.d (D.int IntKind.i64 v)), (4, V.ptr 5 0), (5, V.ptr 6 0)] [(0, Ob.val 2 (V.d (D.agg [D.sl 3 l, D.int IntKind.i64 i]))), (5, Ob.val 5 (V.d (trD u))), (6, Ob.val 5 (V.agg [V.d (D.int IntKind.i64 (10 : Int)), V.d (D.str []), V.sl 5 kids 11, V.d (D.sl 1 []), V.d (D.int IntKind.i64 a)])), (11, Ob.tok kids.length)] (AK cx (T4 k) n 81 1 2 (EK cx 81 1)) = prGo (Sp.boxL (Sp.tbl k) r l i v kids a) fun o j => some (o, rdSt l j)
  | 0, _, _ => rfl
  | r + 1, i, kids => by
    rw [h81]
    unfold prGo
    simp only [Sp.boxL, Sp.comma, Sp.want, Sp.call]
    simp only [optK_optK, optK_cond, optK_must, optK_now, t_names, t_face, t_term, t_after, t_atom, t_box, t_join, t_meet, t_dim, c_not, c_or, decide_true, Bool.true_and, short_eq2]
    try simp only [← List.length_append]
    repeat' (first | (exact u81 n k l v a u r _ _) | (with_reducible refine optK_congr fun x hx => ?_; try simp only [hx, optK_now]) | (with_reducible refine cond_congr (fun h => ?_) (fun h => ?_) <;> try simp only [h, cond_true, cond_false, optK_now]) | (with_reducible refine must_congr ?_) | rfl)

theorem s101 (n k : Nat) (l : List D) (i v : Int) : evBody cx (T4 k) n 101 [.ptr 0 0, .d (.int .i64 v)] (rdSt l i) = prGo (Sp.joinG (Sp.tbl k) n l i v) fun o j => some (o, rdSt l j) := by
  rw [g101]
  unfold prGo Sp.joinG Sp.call
  simp only [optK_optK, optK_cond, optK_must, optK_now, t_names, t_face, t_term, t_after, t_atom, t_box, t_join, t_meet, t_dim, c_not, c_or, decide_true, Bool.true_and, short_eq2]
  repeat' (first | (exact u101 n k l v n _ (Sp.trOf _) ⟨0, [], [], [], 0⟩) | (with_reducible refine optK_congr fun x hx => ?_; try simp only [hx, optK_now]) | (with_reducible refine cond_congr (fun h => ?_) (fun h => ?_) <;> try simp only [h, cond_true, cond_false, optK_now]) | (with_reducible refine must_congr ?_) | rfl)

theorem s110 (n k : Nat) (l : List D) (i v : Int) : evBody cx (T4 k) n 110 [.ptr 0 0, .d (.int .i64 v)] (rdSt l i) = prGo (Sp.meetG (Sp.tbl k) n l i v) fun o j => some (o, rdSt l j) := by
  rw [g110]
  unfold prGo Sp.meetG Sp.call
  simp only [optK_optK, optK_cond, optK_must, optK_now, t_names, t_face, t_term, t_after, t_atom, t_box, t_join, t_meet, t_dim, c_not, c_or, decide_true, Bool.true_and, short_eq2]
  repeat' (first | (exact u110 n k l v n _ (Sp.trOf _) ⟨0, [], [], [], 0⟩) | (with_reducible refine optK_congr fun x hx => ?_; try simp only [hx, optK_now]) | (with_reducible refine cond_congr (fun h => ?_) (fun h => ?_) <;> try simp only [h, cond_true, cond_false, optK_now]) | (with_reducible refine must_congr ?_) | rfl)

theorem s102 (n k : Nat) (l : List D) (i : Int) : evBody cx (T4 k) n 102 [.ptr 0 0] (rdSt l i) = prGo (Sp.faceG n l i) fun o j => some (o, rdSt l j) := by
  rw [g102]
  unfold prGo Sp.faceG
  simp only [optK_optK, optK_cond, optK_must, optK_now, t_names, t_face, t_term, t_after, t_atom, t_box, t_join, t_meet, t_dim, c_not, c_or, decide_true, Bool.true_and, short_eq2]
  repeat' (first | (exact u102 n k l _ ⟨0, [], [], [], 0⟩ n _ _) | (with_reducible refine optK_congr fun x hx => ?_; try simp only [hx, optK_now]) | (with_reducible refine cond_congr (fun h => ?_) (fun h => ?_) <;> try simp only [h, cond_true, cond_false, optK_now]) | (with_reducible refine must_congr ?_) | rfl)

theorem s81 (n k : Nat) (l : List D) (i v : Int) : evBody cx (T4 k) n 81 [.ptr 0 0, .d (.int .i64 v)] (rdSt l i) = prGo (Sp.boxG (Sp.tbl k) n l i v) fun o j => some (o, rdSt l j) := by
  rw [g81]
  unfold prGo Sp.boxG
  simp only [optK_optK, optK_cond, optK_must, optK_now, t_names, t_face, t_term, t_after, t_atom, t_box, t_join, t_meet, t_dim, c_not, c_or, decide_true, Bool.true_and, short_eq2]
  repeat' (first | (exact u81 n k l v _ ⟨0, [], [], [], 0⟩ n _ _) | (with_reducible refine optK_congr fun x hx => ?_; try simp only [hx, optK_now]) | (with_reducible refine cond_congr (fun h => ?_) (fun h => ?_) <;> try simp only [h, cond_true, cond_false, optK_now]) | (with_reducible refine must_congr ?_) | rfl)

theorem s54 (n k : Nat) (l : List D) (i v : Int) (t : Tr) : evBody cx (T4 k) n 54 [.ptr 0 0, .d (.int .i64 v), .d (trD t)] (rdSt l i) = prGo (Sp.afterG (Sp.tbl k) n l i v t) fun o j => some (o, rdSt l j) := by
  rw [g54]
  exact u54 n k l v n i t ⟨0, [], [], [], 0⟩

theorem s49 (n k : Nat) (l : List D) (i : Int) : evBody cx (T4 k) n 49 [.ptr 0 0] (rdSt l i) = optK (Sp.namesG n l i) fun p => bif Sp.okN p then some (.ret (.d (.sl 1 (Sp.lN p))), rdSt l (Sp.nxtN p)) else some (.pan (wrongV (Sp.bAtN p) (Sp.bEN p)), rdSt l (Sp.nxtN p)) := by
  rw [g49]
  unfold Sp.namesG
  simp only [optK_optK, optK_cond, optK_must, optK_now, t_names, t_face, t_term, t_after, t_atom, t_box, t_join, t_meet, t_dim, c_not, c_or, decide_true, Bool.true_and, short_eq2]
  repeat' (first | (exact u49 n k l n _ [_]) | (with_reducible refine optK_congr fun x hx => ?_; try simp only [hx, optK_now]) | (with_reducible refine cond_congr (fun h => ?_) (fun h => ?_) <;> try simp only [h, cond_true, cond_false, optK_now]) | (with_reducible refine must_congr ?_) | rfl)

theorem dec55_some {a : List V} {σ : St} {q : Int × Int × List D × Option Nat} (h : dec55 a σ = some q) : (∃ k p l, q = (k, p, l, none) ∧ a = [.d (.int .i64 k), .d (.int .i64 p), .d (.sl 5 l)] ∧ σ = []) ∨ ∃ k p l m, q = (k, p, l, some m) ∧ a = [.d (.int .i64 k), .d (.int .i64 p), .sl 5 l 0] ∧ σ = [(0, .tok m)] := by
  unfold dec55 at h
  split at h
  · cases h; exact .inl ⟨_, _, _, rfl, rfl, rfl⟩
  · cases h; exact .inr ⟨_, _, _, _, rfl, rfl, rfl⟩
  · cases h

theorem of55_knows : knows cx (of55 T3).S (evLim cx) := by
  intro g args σ r hd h
  simp only [of55] at h
  cases hg : Nat.beq g 55 <;> rw [hg] at h
  · exact T3_knows g args σ r hd h
  · obtain rfl := Nat.eq_of_beq_eq_true hg
    simp only [cond_true] at h
    obtain ⟨q, hq, h⟩ := optK_some h
    refine lim_bodyK T3_knows (N := 0) ?_
    rcases dec55_some hq with ⟨k, p, l, rfl, rfl, rfl⟩ | ⟨k, p, l, m, rfl, rfl, rfl⟩
    · rw [g55]; exact h
    · rw [g55k]; exact h

/-- What is said of the great functions is so. -/
theorem T4_knows : ∀ k, knows cx (T4 k).S (evLim cx)
  | 0 => by
    unfold T4
    refine rdr_knows (rdr_knows (rdr_knows (rdr_knows (rdr_knows (rdr_knows (rdr_knows (rdr_knows (rdr_knows of55_knows ?_) ?_) ?_) ?_) ?_) ?_) ?_) ?_) ?_ <;> (intro l i x r a hd h; cases h)
  | k + 1 => by
    have hT := T4_knows k
    unfold T4
    refine rdr_knows (rdr_knows (rdr_knows (rdr_knows (rdr_knows (rdr_knows (rdr_knows (rdr_knows (rdr_knows of55_knows ?_) ?_) ?_) ?_) ?_) ?_) ?_) ?_) ?_
    · intro l i x r a hd h
      rw [dec0_some hd]; refine lim_bodyK hT (N := k) ?_; exact (s49 k k l i).trans h
    · intro l i x r a hd h
      rw [decI_some hd]; refine lim_bodyK hT (N := k) ?_; exact (s80 k k l i x).trans h
    · intro l i x r a hd h
      rw [decI_some hd]; refine lim_bodyK hT (N := k) ?_; exact (s110 k k l i x).trans h
    · intro l i x r a hd h
      rw [decI_some hd]; refine lim_bodyK hT (N := k) ?_; exact (s101 k k l i x).trans h
    · intro l i x r a hd h
      rw [dec0_some hd]; refine lim_bodyK hT (N := k) ?_; exact (s102 k k l i).trans h
    · intro l i x r a hd h
      rw [decI_some hd]; refine lim_bodyK hT (N := k) ?_; exact (s81 k k l i x).trans h
    · intro l i x r a hd h
      rw [decI_some hd]; refine lim_bodyK hT (N := k) ?_; exact (s56 k k l i x).trans h
    · intro l i x r a hd h
      rw [decT_some hd]; refine lim_bodyK hT (N := k) ?_; exact (s54 k k l i x.1 x.2).trans h
    · intro l i x r a hd h
      rw [decI_some hd]; refine lim_bodyK hT (N := k) ?_; exact (s25 k k l i x).trans h

theorem limDecl (k : Nat) (l : List D) (i : Int) {r : R1} (h : prGo (Sp.decl k l i) (fun o j => some (o, rdSt l j)) = some r) : evLim cx 28 [.ptr 0 0] (rdSt l i) = some r :=
  lim_bodyK (T4_knows k) (N := 0) (by rw [s28]; exact h)
end Go.Vai
end

section
namespace Go.Vai
open Go.Proofs

noncomputable def T5 (k : Nat) : CK R1 := rdr 28 (F28 k) (T4 k)
theorem T5_knows (k : Nat) : knows cx (T5 k).S (evLim cx) := rdr_knows (T4_knows k) fun l i x r a hd h => by
  rw [dec0_some hd]
  exact limDecl k l i h

/-- The declarations that are read; or where that fails, and why. -/
inductive PL where
  | ok (ds : List D) (j : Int)
  | bad (a e j : Int) (ds : List D)
def Sp.okL : PL → Bool | .ok _ _ => true | _ => false
def Sp.dsL : PL → List D | .ok ds _ => ds | .bad _ _ _ ds => ds
def Sp.nxtL : PL → Int | .ok _ j => j | .bad _ _ j _ => j
def Sp.bAtL : PL → Int | .bad a _ _ _ => a | _ => 0
def Sp.bEL : PL → Int | .bad _ e _ _ => e | _ => 0
def Sp.parseL (k : Nat) : Nat → List D → Int → List D → Option PL
  | 0, _, _, _ => none
  | r + 1, l, i, ds => optK (Sp.tok l i) fun p => bif decide (p.1 = 0) then some (.ok ds i)
    else optK (Sp.decl k l i) fun q => bif Sp.okQ q then must (Sp.short ds) (Sp.parseL k r l (Sp.nxt q) (ds ++ [trD (Sp.trOf q)])) else some (.bad (Sp.bAt q) (Sp.bE q) (Sp.nxt q) ds)
/-- The closure that reads a term. -/
def dec24 : List V → St → Option (List D × Int × Int × List UInt8 × Int × Nat × Nat)
  | [.ptr 0 0, .ptr 1 0], [(0, .val 2 (.d (.agg [.sl 3 l, .int .i64 i]))), (1, .val 5 (.agg [.d (.int .i64 z), .d (.str e), .sl 5 [] 2, .sl 1 [] 3, .d (.int .i64 y)])), (2, .tok a), (3, .tok b)] => some (l, i, z, e, y, a, b)
  | _, _ => none
def go24 (k : Nat) (K : Out → St → Option R1) : List D × Int × Int × List UInt8 × Int × Nat × Nat → Option R1
  | (l, i, z, e, y, a, b) => optK (Sp.term k l i 1) fun p => bif Sp.okQ p then K (.ret (.tup [])) [(0, .val 2 (.d (.agg [.sl 3 l, .int .i64 (Sp.nxt p)]))), (1, .val 5 (.d (trD (Sp.trOf p)))), (2, .tok a), (3, .tok b)]
    else K (.pan (wrongV (Sp.bAt p) (Sp.bE p))) [(0, .val 2 (.d (.agg [.sl 3 l, .int .i64 (Sp.nxt p)]))), (1, .val 5 (.agg [.d (.int .i64 z), .d (.str e), .sl 5 [] 2, .sl 1 [] 3, .d (.int .i64 y)])), (2, .tok a), (3, .tok b)]
theorem go24_ok (k : Nat) (K : Out → St → Option R1) (q : List D × Int × Int × List UInt8 × Int × Nat × Nat) : go24 k K q = optP (go24 k (fun o s => some (o, s)) q) K := by
  obtain ⟨l, i, z, e, y, a, b⟩ := q
  show optK _ _ = optP (optK _ _) K
  rw [optP_optK]
  congr 1
  funext p
  rw [optP_cond]
  rfl
/-- The closure that reads declarations. -/
def dec26 : List V → St → Option (List D × Int)
  | [.ptr 0 0, .ptr 1 0], [(0, .val 2 (.d (.agg [.sl 3 l, .int .i64 i]))), (1, .val 1 (.sl 5 [] 2)), (2, .tok 0)] => some (l, i)
  | _, _ => none
def go26 (k : Nat) (K : Out → St → Option R1) : List D × Int → Option R1
  | (l, i) => optK (Sp.parseL k k l i []) fun p => bif Sp.okL p then K (.ret (.tup [])) [(0, .val 2 (.d (.agg [.sl 3 l, .int .i64 (Sp.nxtL p)]))), (1, .val 1 (.sl 5 (Sp.dsL p) 2)), (2, .tok (Sp.dsL p).length)]
    else K (.pan (wrongV (Sp.bAtL p) (Sp.bEL p))) [(0, .val 2 (.d (.agg [.sl 3 l, .int .i64 (Sp.nxtL p)]))), (1, .val 1 (.sl 5 (Sp.dsL p) 2)), (2, .tok (Sp.dsL p).length)]
theorem go26_ok (k : Nat) (K : Out → St → Option R1) (q : List D × Int) : go26 k K q = optP (go26 k (fun o s => some (o, s)) q) K := by
  obtain ⟨l, i⟩ := q
  show optK _ _ = optP (optK _ _) K
  rw [optP_optK]
  congr 1
  funext p
  rw [optP_cond]
  rfl
noncomputable def T6 (k : Nat) : CK R1 := more 13 dec13 go13 go13_ok (more 24 dec24 (go24 k) (go24_ok k) (more 26 dec26 (go26 k) (go26_ok k) (T5 k)))

/-- The end of a function that has put a call off. -/
def ED (cx : Cx) (call : CK (Out × St)) (n f m g : Nat) (cap : List V) : Ex → Fr → St → Option (Out × St) := endD cx (evRecC cx call.S n) f m (resOf cx f) g cap
theorem g24 (n k a b : Nat) (l : List D) (i z y : Int) (e : List UInt8) : evBody cx (T5 k) n 24 [.ptr 0 0, .ptr 1 0] [(0, .val 2 (.d (.agg [.sl 3 l, .int .i64 i]))), (1, .val 5 (.agg [.d (.int .i64 z), .d (.str e), .sl 5 [] 2, .sl 1 [] 3, .d (.int .i64 y)])), (2, .tok a), (3, .tok b)] = optK (Sp.term k l i (1 : Int)) fun p => bif Sp.okQ p then some (Out.ret (V.tup []), [(0, Ob.val 2 (V.d (D.agg [D.sl 3 l, D.int IntKind.i64 (Sp.nxt p)]))), (1, Ob.val 5 (V.d (D.agg [D.int IntKind.i64 (Sp.trOf p).k, D.str (Sp.trOf p).2, D.sl 5 (Sp.trOf p).3, D.sl 1 (Sp.trOf p).4, D.int IntKind.i64 (Sp.trOf p).pl]))), (2, Ob.tok a), (3, Ob.tok b)]) else some (Out.pan (V.d (D.iface 79 (D.agg [D.int IntKind.i64 (Sp.bAt p), D.int IntKind.i64 (Sp.bE p)]))), [(0, Ob.val 2 (V.d (D.agg [D.sl 3 l, D.int IntKind.i64 (Sp.nxt p)]))), (1, Ob.val 5 (V.agg [V.d (D.int IntKind.i64 z), V.d (D.str e), V.sl 5 [] 2, V.sl 1 [] 3, V.d (D.int IntKind.i64 y)])), (2, Ob.tok a), (3, Ob.tok b)]) := by kernel_rfl

theorem g26 (n k : Nat) (l : List D) (i : Int) : evBody cx (T5 k) n 26 [.ptr 0 0, .ptr 1 0] [(0, .val 2 (.d (.agg [.sl 3 l, .int .i64 i]))), (1, .val 1 (.sl 5 [] 2)), (2, .tok 0)] = LP cx (T5 k) n 26 3 0 n [(0, V.ptr 0 0), (1, V.ptr 1 0)] [(0, Ob.val 2 (V.d (D.agg [D.sl 3 l, D.int IntKind.i64 i]))), (1, Ob.val 1 (V.sl 5 [] 2)), (2, Ob.tok 0)] (AK cx (T5 k) n 26 3 0 (EK cx 26 3)) := by kernel_rfl

theorem h26 (n k r : Nat) (l ds : List D) (i : Int) : LP cx (T5 k) n 26 3 0 (r + 1) [(0, V.ptr 0 0), (1, V.ptr 1 0)] [(0, Ob.val 2 (V.d (D.agg [D.sl 3 l, D.int IntKind.i64 i]))), (1, Ob.val 1 (V.sl 5 ds 2)), (2, Ob.tok ds.length)] (AK cx (T5 k) n 26 3 0 (EK cx 26 3)) = optK (Sp.tok l i) fun p => bif !decide (p.fst = (0 : Int)) then optK (Sp.decl k l i) fun p => bif Sp.okQ p then must (decide (ds.length = ds.length) && decide ((↑ds.length : Int) = (↑ds.length : Int)) && decide (ds.length + 1 ≤ 4294967296) && true && true) (LP cx (T5 k) n 26 3 0 r [(0, V.ptr 0 0), (1, V.ptr 1 0)] [(0, Ob.val 2 (V.d (D.agg [D.sl 3 l, D.int IntKind.i64 (Sp.nxt p)]))), (1, Ob.val 1 (V.sl 5 (ds ++ [D.agg [D.int IntKind.i64 (Sp.trOf p).k, D.str (Sp.trOf p).2, D.sl 5 (Sp.trOf p).3, D.sl 1 (Sp.trOf p).4, D.int IntKind.i64 (Sp.trOf p).pl]]) 2)), (2, Ob.tok (ds.length + 1))] (AK cx (T5 k) n 26 3 0 (EK cx 26 3))) else some (Out.pan (V.d (D.iface 79 (D.agg [D.int IntKind.i64 (Sp.bAt p), D.int IntKind.i64 (Sp.bE p)]))), [(0, Ob.val 2 (V.d (D.agg [D.sl 3 l, D.int IntKind.i64 (Sp.nxt p)]))), (1, Ob.val 1 (V.sl 5 ds 2)), (2, Ob.tok ds.length)]) else some (Out.ret (V.tup []), [(0, Ob.val 2 (V.d (D.agg [D.sl 3 l, D.int IntKind.i64 i]))), (1, Ob.val 1 (V.sl 5 ds 2)), (2, Ob.tok ds.length)]) := by kernel_rfl

theorem g23a (n k a b : Nat) (s e : List UInt8) (z y : Int) : evBody cx (T6 k) n 23 [V.d (D.str s), V.func 24 [V.ptr 0 0]] [(0, Ob.val 5 (V.agg [V.d (D.int IntKind.i64 z), V.d (D.str e), V.sl 5 [] 1, V.sl 1 [] 2, V.d (D.int IntKind.i64 y)])), (1, Ob.tok a), (2, Ob.tok b)] = must (decide (s.length ≤ big)) (bif decide (Sp.scE s = 0) then must (decide (0 ≤ IntKind.i64.wrap ((↑(Sp.scL s).length : Int) - (1 : Int))) && decide (IntKind.i64.wrap ((↑(Sp.scL s).length : Int) - (1 : Int)) < (↑(Sp.scL s).length : Int))) (nthD (Sp.scL s) (IntKind.i64.wrap ((↑(Sp.scL s).length : Int) - (1 : Int))).toNat fun y_1 => OPS cx (T6 k) n 23 3 5 5 [(24, V.eptr y_1 0), (23, V.d (D.int IntKind.i64 (IntKind.i64.wrap ((↑(Sp.scL s).length : Int) - (1 : Int))))), (22, V.d (D.int IntKind.i64 (↑(Sp.scL s).length : Int))), (21, V.sl 3 (Sp.scL s) 14), (20, V.sl 3 (Sp.scL s) 14), (19, V.func 45 [V.ptr 7 0, V.ptr 8 0]), (16, V.d (D.bool false)), (15, V.d (D.int IntKind.i64 (0 : Int))), (6, V.sl 3 (Sp.scL s) 14), (14, V.d (D.int IntKind.i64 (0 : Int))), (13, V.d (D.int IntKind.i64 (Sp.scA s))), (12, V.sl 3 (Sp.scL s) 14), (9, V.tup [V.sl 3 (Sp.scL s) 14, V.d (D.int IntKind.i64 (Sp.scA s)), V.d (D.int IntKind.i64 (0 : Int))]), (11, V.tup [V.sl 3 (Sp.scL s) 14, V.d (D.int IntKind.i64 (Sp.scA s)), V.d (D.int IntKind.i64 (0 : Int))]), (10, V.d (D.str s)), (5, V.ptr 8 0), (4, V.ptr 7 0), (0, V.d (D.str s)), (1, V.func 24 [V.ptr 0 0])] [(0, Ob.val 5 (V.agg [V.d (D.int IntKind.i64 z), V.d (D.str e), V.sl 5 [] 1, V.sl 1 [] 2, V.d (D.int IntKind.i64 y)])), (1, Ob.tok a), (2, Ob.tok b), (7, Ob.val 1 (V.d (D.int IntKind.i64 (Sp.scA s)))), (8, Ob.val 1 (V.d (D.int IntKind.i64 (0 : Int)))), (14, Ob.tok (Sp.scL s).length)] (AR cx (T6 k) n 23 3 5 (ED cx (T6 k) n 23 3 45 [V.ptr 7 0, V.ptr 8 0]))) else bif !decide (Sp.scE s = (0 : Int)) then some (Out.ret (V.tup [V.d (D.int IntKind.i64 (Sp.scA s)), V.d (D.int IntKind.i64 (Sp.scE s))]), [(0, Ob.val 5 (V.agg [V.d (D.int IntKind.i64 z), V.d (D.str e), V.sl 5 [] 1, V.sl 1 [] 2, V.d (D.int IntKind.i64 y)])), (1, Ob.tok a), (2, Ob.tok b)]) else none) := by kernel_rfl

theorem i23a (n k a b : Nat) (s e : List UInt8) (z y : Int) (L : List D) (q : Int) (t : List UInt8) (c : Int) : OPS cx (T6 k) n 23 3 5 5 [(24, V.eptr (tokD q t c) 0), (23, V.d (D.int IntKind.i64 (IntKind.i64.wrap ((↑L.length : Int) - (1 : Int))))), (22, V.d (D.int IntKind.i64 (↑L.length : Int))), (21, V.sl 3 L 14), (20, V.sl 3 L 14), (19, V.func 45 [V.ptr 7 0, V.ptr 8 0]), (16, V.d (D.bool false)), (15, V.d (D.int IntKind.i64 (0 : Int))), (6, V.sl 3 L 14), (14, V.d (D.int IntKind.i64 (0 : Int))), (13, V.d (D.int IntKind.i64 (Sp.scA s))), (12, V.sl 3 L 14), (9, V.tup [V.sl 3 L 14, V.d (D.int IntKind.i64 (Sp.scA s)), V.d (D.int IntKind.i64 (0 : Int))]), (11, V.tup [V.sl 3 L 14, V.d (D.int IntKind.i64 (Sp.scA s)), V.d (D.int IntKind.i64 (0 : Int))]), (10, V.d (D.str s)), (5, V.ptr 8 0), (4, V.ptr 7 0), (0, V.d (D.str s)), (1, V.func 24 [V.ptr 0 0])] [(0, Ob.val 5 (V.agg [V.d (D.int IntKind.i64 z), V.d (D.str e), V.sl 5 [] 1, V.sl 1 [] 2, V.d (D.int IntKind.i64 y)])), (1, Ob.tok a), (2, Ob.tok b), (7, Ob.val 1 (V.d (D.int IntKind.i64 (Sp.scA s)))), (8, Ob.val 1 (V.d (D.int IntKind.i64 (0 : Int)))), (14, Ob.tok L.length)] (AR cx (T6 k) n 23 3 5 (ED cx (T6 k) n 23 3 45 [V.ptr 7 0, V.ptr 8 0])) = must (decide (L.length = L.length) && decide (L.length + [D.agg [D.int IntKind.i64 q, D.str t, D.int IntKind.i64 c], D.agg [D.int IntKind.i64 q, D.str t, D.int IntKind.i64 c]].length ≤ 4294967296)) (optK (Sp.term k (L ++ [D.agg [D.int IntKind.i64 q, D.str t, D.int IntKind.i64 c], D.agg [D.int IntKind.i64 q, D.str t, D.int IntKind.i64 c]]) (0 : Int) 1) fun p => bif Sp.okQ p then optK (Sp.tok (L ++ [D.agg [D.int IntKind.i64 q, D.str t, D.int IntKind.i64 c], D.agg [D.int IntKind.i64 q, D.str t, D.int IntKind.i64 c]]) (Sp.nxt p)) fun p_1 => bif !decide (p_1.fst = (0 : Int)) then optK (Sp.tok (L ++ [D.agg [D.int IntKind.i64 q, D.str t, D.int IntKind.i64 c], D.agg [D.int IntKind.i64 q, D.str t, D.int IntKind.i64 c]]) (Sp.nxt p)) fun p_2 => some (Out.ret (V.tup [V.d (D.int IntKind.i64 p_2.snd.snd), V.d (D.int IntKind.i64 (61 : Int))]), [(0, Ob.val 5 (V.d (D.agg [D.int IntKind.i64 (Sp.trOf p).k, D.str (Sp.trOf p).2, D.sl 5 (Sp.trOf p).3, D.sl 1 (Sp.trOf p).4, D.int IntKind.i64 (Sp.trOf p).pl]))), (1, Ob.tok a), (2, Ob.tok b)]) else some (Out.ret (V.tup [V.d (D.int IntKind.i64 (0 : Int)), V.d (D.int IntKind.i64 (0 : Int))]), [(0, Ob.val 5 (V.d (D.agg [D.int IntKind.i64 (Sp.trOf p).k, D.str (Sp.trOf p).2, D.sl 5 (Sp.trOf p).3, D.sl 1 (Sp.trOf p).4, D.int IntKind.i64 (Sp.trOf p).pl]))), (1, Ob.tok a), (2, Ob.tok b)]) else some (Out.ret (V.tup [V.d (D.int IntKind.i64 (Sp.bAt p)), V.d (D.int IntKind.i64 (Sp.bE p))]), [(0, Ob.val 5 (V.agg [V.d (D.int IntKind.i64 z), V.d (D.str e), V.sl 5 [] 1, V.sl 1 [] 2, V.d (D.int IntKind.i64 y)])), (1, Ob.tok a), (2, Ob.tok b)])) := by kernel_rfl

theorem short_eq3 (l : List D) : decide (l.length + 1 ≤ 4294967296) = Sp.short l := by
  unfold Sp.short
  exact decide_eq_decide.2 (by omega)

theorem u26 (n k : Nat) (l : List D) : ∀ (r : Nat) (i : Int) (ds : List D), LP cx (T5 k) n 26 3 0 r [(0, V.ptr 0 0), (1, V.ptr 1 0)] [(0, Ob.val 2 (V.d (D.agg [D.sl 3 l, D.int IntKind.i64 i]))), (1, Ob.val 1 (V.sl 5 ds 2)), (2, Ob.tok ds.length)] (AK cx (T5 k) n 26 3 0 (EK cx 26 3)) =
    optK (Sp.parseL k r l i ds) fun p => bif Sp.okL p then some (.ret (.tup []), [(0, .val 2 (.d (.agg [.sl 3 l, .int .i64 (Sp.nxtL p)]))), (1, .val 1 (.sl 5 (Sp.dsL p) 2)), (2, .tok (Sp.dsL p).length)])
    else some (.pan (wrongV (Sp.bAtL p) (Sp.bEL p)), [(0, .val 2 (.d (.agg [.sl 3 l, .int .i64 (Sp.nxtL p)]))), (1, .val 1 (.sl 5 (Sp.dsL p) 2)), (2, .tok (Sp.dsL p).length)])
  | 0, _, _ => rfl
  | r + 1, i, ds => by
    rw [h26]
    simp only [Sp.parseL, decide_true, Bool.true_and, Bool.and_true, short_eq3, c_not, optK_optK, optK_cond, optK_must, optK_now]
    cases hp : Sp.tok l i with
    | none => rfl
    | some p =>
      simp only [optK_now]
      cases decide (p.1 = 0) with
      | true => rfl
      | false =>
        simp only [cond_false]
        refine optK_congr fun q hq => ?_
        cases Sp.okQ q with
        | false => rfl
        | true =>
          simp only [cond_true]
          refine must_congr ?_
          have e := u26 n k l r (Sp.nxt q) (ds ++ [trD (Sp.trOf q)])
          rw [List.length_append] at e
          exact e

/-- What is read is nothing, or ends so. -/
def Sp.ext (L : List D) : List D := match L.getLast? with | some e => L ++ [e, e] | none => L
theorem ext_snoc (I : List D) (e : D) : Sp.ext (I ++ [e]) = I ++ [e] ++ [e, e] := by unfold Sp.ext; rw [List.getLast?_concat]

theorem lim24' (k : Nat) (a : List V) (σ : St) (q) (r : R1) (hd : dec24 a σ = some q) (h : go24 k (fun o s => some (o, s)) q = some r) : evLim cx 24 a σ = some r := by
  unfold dec24 at hd
  split at hd
  · cases hd
    refine lim_bodyK (T5_knows k) (N := 0) ?_
    rw [g24]
    exact h
  · cases hd

theorem lim26' (k : Nat) (a : List V) (σ : St) (q) (r : R1) (hd : dec26 a σ = some q) (h : go26 k (fun o s => some (o, s)) q = some r) : evLim cx 26 a σ = some r := by
  unfold dec26 at hd
  split at hd
  · cases hd
    refine lim_bodyK (T5_knows k) (N := k) ?_
    rw [g26]
    exact (u26 k k _ k _ []).trans h
  · cases hd

end Go.Vai
end

section
namespace Go.Vai
open Go.Proofs

theorem T6_knows (k : Nat) : knows cx (T6 k).S (evLim cx) := by
  unfold T6
  exact more_knows (more_knows (more_knows (T5_knows k) (lim26' k)) (lim24' k)) lim13'

def dec23a : List V → St → Option (List UInt8 × Int × List UInt8 × Int × Nat × Nat)
  | [.d (.str s), .func 24 [.ptr 0 0]], [(0, .val 5 (.agg [.d (.int .i64 z), .d (.str e), .sl 5 [] 1, .sl 1 [] 2, .d (.int .i64 y)])), (1, .tok a), (2, .tok b)] => some (s, z, e, y, a, b)
  | _, _ => none
def go23a (k : Nat) (K : Out → St → Option R1) : List UInt8 × Int × List UInt8 × Int × Nat × Nat → Option R1
  | (s, z, e, y, a, b) => must (decide (s.length ≤ big)) <| bif decide (Sp.scE s = 0) then optK (Sp.term k (Sp.ext (Sp.scL s)) 0 1) fun p =>
      bif Sp.okQ p then optK (Sp.tok (Sp.ext (Sp.scL s)) (Sp.nxt p)) fun q =>
        bif decide (q.1 = 0) then K (.ret (.tup [.d (.int .i64 0), .d (.int .i64 0)])) [(0, .val 5 (.d (trD (Sp.trOf p)))), (1, .tok a), (2, .tok b)]
        else K (.ret (.tup [.d (.int .i64 q.2.2), .d (.int .i64 61)])) [(0, .val 5 (.d (trD (Sp.trOf p)))), (1, .tok a), (2, .tok b)]
      else K (.ret (.tup [.d (.int .i64 (Sp.bAt p)), .d (.int .i64 (Sp.bE p))])) [(0, .val 5 (.agg [.d (.int .i64 z), .d (.str e), .sl 5 [] 1, .sl 1 [] 2, .d (.int .i64 y)])), (1, .tok a), (2, .tok b)]
    else K (.ret (.tup [.d (.int .i64 (Sp.scA s)), .d (.int .i64 (Sp.scE s))])) [(0, .val 5 (.agg [.d (.int .i64 z), .d (.str e), .sl 5 [] 1, .sl 1 [] 2, .d (.int .i64 y)])), (1, .tok a), (2, .tok b)]
theorem go23a_ok (k : Nat) (K : Out → St → Option R1) (q : List UInt8 × Int × List UInt8 × Int × Nat × Nat) : go23a k K q = optP (go23a k (fun o s => some (o, s)) q) K := by
  obtain ⟨s, z, e, y, a, b⟩ := q
  simp only [go23a, must, optP_cond, optP_optK]
  rfl

theorem scan_short {s : List UInt8} (h : decide (Sp.scE s = 0) = true) : (Sp.scL s).length ≤ 65537 := by
  have h1 := scan_len s
  rcases scan_says s with ⟨h2, _⟩ | ⟨h2, _⟩
  · unfold Sp.scL; omega
  · exact absurd (of_decide_eq_true h) h2

theorem last_wrap {I : List D} {e : D} (h : (I ++ [e]).length ≤ 65537) : IntKind.i64.wrap (((I ++ [e]).length : Int) - 1) = (I.length : Int) := by
  have hl : (I ++ [e]).length = I.length + 1 := by simp
  rw [IntWalk.i64_in _ (by omega)]
  omega

theorem last_at {I : List D} {e : D} (h : (I ++ [e]).length ≤ 65537) : (I ++ [e])[(IntKind.i64.wrap (((I ++ [e]).length : Int) - 1)).toNat]? = some e := by
  rw [last_wrap h, Int.toNat_natCast, List.getElem?_concat_length]

theorem last_in {I : List D} {e : D} (h : (I ++ [e]).length ≤ 65537) : (decide (0 ≤ IntKind.i64.wrap (((I ++ [e]).length : Int) - 1)) && decide (IntKind.i64.wrap (((I ++ [e]).length : Int) - 1) < ((I ++ [e]).length : Int))) = true := by
  rw [last_wrap h]
  have hl : (I ++ [e]).length = I.length + 1 := by simp
  simp only [Bool.and_eq_true, decide_eq_true_eq]
  omega

theorem ext_len {L : List D} {x y : D} (h : L.length ≤ 65537) : (decide (L.length = L.length) && decide (L.length + [x, y].length ≤ 4294967296)) = true := by
  rw [decide_eq_true rfl, decide_eq_true (p := L.length + [x, y].length ≤ 4294967296) (by show L.length + 2 ≤ _; omega)]
  rfl

theorem lim23a (k : Nat) (a : List V) (σ : St) (q) (r : R1) (hd : dec23a a σ = some q) (h : go23a k (fun o s => some (o, s)) q = some r) : evLim cx 23 a σ = some r := by
  unfold dec23a at hd
  split at hd
  · rename_i s z e y a b
    cases hd
    refine lim_bodyK (T6_knows k) (N := 0) ?_
    rw [g23a, ← h]
    simp only [go23a]
    refine must_congr ?_
    cases hs : decide (Sp.scE s = 0)
    · rfl
    · obtain ⟨I, hI⟩ := scan_ok hs
      have hl := scan_short hs
      rw [hI] at hl
      simp only [cond_true]
      rw [hI, last_in hl, must, cond_true, nthD_at (last_at hl), i23a, ext_len hl, must, cond_true, ext_snoc]
      refine optK_congr fun p hp => ?_
      cases Sp.okQ p
      · rfl
      · simp only [cond_true]
        refine optK_congr fun t ht => ?_
        have hx : Sp.tok (I ++ [tokD 0 [] _] ++ [tokD 0 [] _, tokD 0 [] _]) (Sp.nxt p) = some t := ht
        cases hq : decide (t.1 = 0)
        · rw [c_not]
          simp only [hq, cond_false]
          exact (congrArg (fun o => optK o _) hx).trans rfl
        · rw [c_not]
          simp only [hq, cond_true]
          rfl
  · cases hd

noncomputable def T8a (k : Nat) : CK R1 := more 23 dec23a (go23a k) (go23a_ok k) (CK.plain none1)
theorem T8a_knows (k : Nat) : knows cx (T8a k).S (evLim cx) := more_knows none1K_knows (lim23a k)
theorem g10 (n k : Nat) (s : List UInt8) : evBody cx (T8a k) n 10 [.d (.str s)] [] = must (decide (s.length ≤ big)) (bif decide (Sp.scE s = 0) then optK (Sp.term k (Sp.ext (Sp.scL s)) 0 1) fun p => bif Sp.okQ p then optK (Sp.tok (Sp.ext (Sp.scL s)) (Sp.nxt p)) fun q => bif decide (q.fst = 0) then some (Out.ret (V.tup [V.d (D.agg [D.int IntKind.i64 (Sp.trOf p).k, D.str (Sp.trOf p).2, D.sl 5 (Sp.trOf p).3, D.sl 1 (Sp.trOf p).4, D.int IntKind.i64 (Sp.trOf p).pl]), V.d (D.int IntKind.i64 (0 : Int)), V.d (D.int IntKind.i64 (0 : Int))]), []) else some (Out.ret (V.tup [V.d (D.agg [D.int IntKind.i64 (0 : Int), D.str [], D.sl 5 [], D.sl 1 [], D.int IntKind.i64 (0 : Int)]), V.d (D.int IntKind.i64 q.snd.snd), V.d (D.int IntKind.i64 (61 : Int))]), []) else bif !decide (Sp.bE p = (0 : Int)) then some (Out.ret (V.tup [V.d (D.agg [D.int IntKind.i64 (0 : Int), D.str [], D.sl 5 [], D.sl 1 [], D.int IntKind.i64 (0 : Int)]), V.d (D.int IntKind.i64 (Sp.bAt p)), V.d (D.int IntKind.i64 (Sp.bE p))]), []) else some (Out.ret (V.tup [V.d (D.agg [D.int IntKind.i64 (0 : Int), D.str [], D.sl 5 [], D.sl 1 [], D.int IntKind.i64 (0 : Int)]), V.d (D.int IntKind.i64 (0 : Int)), V.d (D.int IntKind.i64 (0 : Int))]), []) else bif !decide (Sp.scE s = (0 : Int)) then some (Out.ret (V.tup [V.d (D.agg [D.int IntKind.i64 (0 : Int), D.str [], D.sl 5 [], D.sl 1 [], D.int IntKind.i64 (0 : Int)]), V.d (D.int IntKind.i64 (Sp.scA s)), V.d (D.int IntKind.i64 (Sp.scE s))]), []) else some (Out.ret (V.tup [V.d (D.agg [D.int IntKind.i64 (0 : Int), D.str [], D.sl 5 [], D.sl 1 [], D.int IntKind.i64 (0 : Int)]), V.d (D.int IntKind.i64 (0 : Int)), V.d (D.int IntKind.i64 (0 : Int))]), [])) := by kernel_rfl

/-- What a text is: a term; or where it is none, and why. -/
inductive TR where
  | ok (t : Tr)
  | bad (a e : Int)
def TR.out : TR → Out
  | .ok t => .ret (.tup [.d (trD t), .d (.int .i64 0), .d (.int .i64 0)])
  | .bad a e => .ret (.tup [.d (trD ⟨0, [], [], [], 0⟩), .d (.int .i64 a), .d (.int .i64 e)])
def TR.fine : TR → Prop
  | .ok _ => True
  | .bad _ e => e ≠ 0
def Sp.termOf (k : Nat) (s : List UInt8) : Option TR := bif decide (Sp.scE s = 0) then optK (Sp.term k (Sp.ext (Sp.scL s)) 0 1) fun p =>
      bif Sp.okQ p then optK (Sp.tok (Sp.ext (Sp.scL s)) (Sp.nxt p)) fun q => bif decide (q.1 = 0) then some (.ok (Sp.trOf p)) else some (.bad q.2.2 61)
      else some (.bad (Sp.bAt p) (Sp.bE p))
    else some (.bad (Sp.scA s) (Sp.scE s))
/-- The declarations of a text. -/
inductive TL where
  | ok (l : List D)
  | bad (a e : Int)
def TL.out : TL → Out
  | .ok l => .ret (.tup [.d (.sl 5 l), .d (.int .i64 0), .d (.int .i64 0)])
  | .bad a e => .ret (.tup [.d (.sl 5 []), .d (.int .i64 a), .d (.int .i64 e)])
def TL.fine : TL → Prop
  | .ok _ => True
  | .bad _ e => e ≠ 0
theorem lim10 (k : Nat) (s : List UInt8) (hs : s.length ≤ big) (r : TR) (h : Sp.termOf k s = some r) (hr : r.fine) : evLim cx 10 [.d (.str s)] [] = some (r.out, []) := by
  refine lim_bodyK (T8a_knows k) (N := 0) ?_
  rw [g10, decide_eq_true hs, must, cond_true]
  unfold Sp.termOf at h
  cases hc : decide (Sp.scE s = 0) <;> rw [hc] at h
  · rw [cond_false] at h
    cases h
    rfl
  · rw [cond_true] at h
    obtain ⟨p, hp, h⟩ := optK_some h
    simp only [cond_true, hp, optK_now]
    cases hq : Sp.okQ p <;> rw [hq] at h
    · rw [cond_false] at h
      cases h
      rw [cond_false, decide_eq_false (p := Sp.bE p = 0) hr]
      rfl
    · rw [cond_true] at h
      obtain ⟨q, hq, h⟩ := optK_some h
      simp only [cond_true, hq, optK_now]
      cases hz : decide (q.1 = 0) <;> rw [hz] at h
      · cases h; rfl
      · cases h; rfl

end Go.Vai
end

section
namespace Go.Vai
open Go.Proofs

/-- A reader's tokens: so many, and the end behind them. -/
structure Toks (l : List D) (m : Nat) (N : Int) : Prop where
  at_ : ∀ x : Int, 0 ≤ x → x ≤ (m : Int) + 2 → ∃ p, Sp.tok l x = some p
  kind : ∀ (x : Int) p, Sp.tok l x = some p → x < m → p.1 = 1 ∨ p.1 = 2
  fin : ∀ (x : Int) p, Sp.tok l x = some p → (m : Int) ≤ x → p.1 = 0 ∧ p.2.1 = []
  small : m < 100000
  mono : ∀ (x y : Int) p q, Sp.tok l x = some p → Sp.tok l y = some q → x ≤ y → p.2.2 ≤ q.2.2
  low : ∀ (x : Int) p, Sp.tok l x = some p → 0 ≤ p.2.2 ∧ p.2.2 ≤ N

/-- A tree and its parts begin at tokens, to some depth. -/
def Wn (l : List D) : Nat → Int → Tr → Prop
  | 0, _, _ => False
  | n + 1, x, t => ∃ p, Sp.tok l x = some p ∧ t.pl = p.2.2 ∧ (t.k = 1 → t.nm = p.2.1) ∧ 1 ≤ t.k ∧ t.k ≤ 17 ∧ (∀ n ∈ t.nms, ∃ s, n = D.str s) ∧
      (∀ d ∈ t.kids, ∃ u y, d = trD u ∧ x ≤ y ∧ Wn l n y u) ∧ t.kids.length < 4294967296 ∧ t.nms.length < 4294967296
def W (l : List D) (x : Int) (t : Tr) : Prop := ∃ n, Wn l n x t

theorem Wn_up {l : List D} : ∀ {n : Nat} {x : Int} {t : Tr}, Wn l n x t → Wn l (n + 1) x t
  | 0, _, _, h => h.elim
  | n + 1, x, t, ⟨p, h1, h2, h3, h4, h5, h6, h7, h8⟩ => ⟨p, h1, h2, h3, h4, h5, h6, fun d hd => by
    obtain ⟨u, y, e, hy, hW⟩ := h7 d hd
    exact ⟨u, y, e, hy, Wn_up hW⟩, h8⟩
theorem Wn_le {l : List D} {n m : Nat} {x : Int} {t : Tr} (h : Wn l n x t) (hm : n ≤ m) : Wn l m x t := by
  induction hm with
  | refl => exact h
  | step _ ih => exact Wn_up ih
theorem Wn_all {l : List D} {x : Int} : ∀ {ks : List D}, (∀ d ∈ ks, ∃ u y, d = trD u ∧ x ≤ y ∧ W l y u) → ∃ n, ∀ d ∈ ks, ∃ u y, d = trD u ∧ x ≤ y ∧ Wn l n y u
  | [], _ => ⟨0, fun d hd => by cases hd⟩
  | k :: ks, h => by
    obtain ⟨n, hn⟩ := Wn_all fun d hd => h d (List.mem_cons_of_mem _ hd)
    obtain ⟨u, y, e, hy, n', hW⟩ := h k List.mem_cons_self
    refine ⟨max n n', fun d hd => ?_⟩
    rcases List.mem_cons.1 hd with rfl | hd
    · exact ⟨u, y, e, hy, Wn_le hW (Nat.le_max_right _ _)⟩
    · obtain ⟨u, y, e, hy, hW⟩ := hn d hd
      exact ⟨u, y, e, hy, Wn_le hW (Nat.le_max_left _ _)⟩
theorem W.mk {l : List D} {x : Int} {t : Tr} {p : Tk3} (h1 : Sp.tok l x = some p) (h2 : t.pl = p.2.2) (h3 : t.k = 1 → t.nm = p.2.1) (h4 : 1 ≤ t.k) (h5 : t.k ≤ 17) (h6 : ∀ n ∈ t.nms, ∃ s, n = D.str s)
    (h7 : ∀ d ∈ t.kids, ∃ u y, d = trD u ∧ x ≤ y ∧ W l y u) (h8 : t.kids.length < 4294967296) (h9 : t.nms.length < 4294967296) : W l x t := by
  obtain ⟨n, hn⟩ := Wn_all h7
  exact ⟨n + 1, p, h1, h2, h3, h4, h5, h6, hn, h8, h9⟩
theorem up_at {l : List D} {i : Int} {p : Tk3} (h : Sp.tok l i = some p) : up i = i + 1 := up_tok h

theorem isS_kind {p : Tk3} {s : List UInt8} (h : Sp.isS p s = true) : p.1 = 2 ∧ p.2.1 = s := by
  unfold Sp.isS at h
  simp only [Bool.and_eq_true, decide_eq_true_eq] at h
  exact h

theorem arr_pos {p : Tk3} (h : (!decide (Sp.arr p = 0)) = true) : p.1 = 2 ∧ (Sp.arr p = 4 ∨ Sp.arr p = 5) := by
  unfold Sp.arr at h ⊢
  cases h1 : Sp.isS p [45, 62]
  · cases h2 : Sp.isS p [42]
    · rw [h1, h2] at h; exact absurd h (by decide)
    · exact ⟨(isS_kind h2).1, .inr rfl⟩
  · exact ⟨(isS_kind h1).1, .inl rfl⟩

section
variable {l : List D} {m : Nat} {N : Int}

theorem Toks.lt (h : Toks l m N) {x : Int} {p : Tk3} (hp : Sp.tok l x = some p) (hk : p.1 = 1 ∨ p.1 = 2) : x < m := by
  by_cases hx : x < m
  · exact hx
  · have := (h.fin x p hp (by omega)).1; omega

theorem Toks.sign (h : Toks l m N) {x : Int} {p : Tk3} {s : List UInt8} (hp : Sp.tok l x = some p) (hs : Sp.isS p s = true) : x < m := h.lt hp (.inr (isS_kind hs).1)
theorem Toks.nm (h : Toks l m N) {x : Int} {p : Tk3} (hp : Sp.tok l x = some p) (hs : decide (p.1 = 1) = true) : x < m := h.lt hp (.inl (of_decide_eq_true hs))

def GoodR (l : List D) (m : Nat) (i : Int) : PR → Prop
  | .ok t j => ∃ x, i ≤ x ∧ x < j ∧ j ≤ m ∧ W l x t
  | .bad a e _ => (∃ x p, Sp.tok l x = some p ∧ a = p.2.2) ∧ (e = 61 ∨ e = 62)
def U (l : List D) (m : Nat) (i : Int) (o : Option PR) : Prop := ∃ out, o = some out ∧ GoodR l m i out
def GoodN (l : List D) (m : Nat) (i : Int) : PN → Prop
  | .ok ns j => i < j ∧ j ≤ m ∧ (∀ n ∈ ns, ∃ s, n = D.str s) ∧ (ns.length : Int) ≤ m
  | .bad a e _ => (∃ x p, Sp.tok l x = some p ∧ a = p.2.2) ∧ (e = 61 ∨ e = 62)
def UN (l : List D) (m : Nat) (i : Int) (o : Option PN) : Prop := ∃ out, o = some out ∧ GoodN l m i out

theorem u_bad {i x j e : Int} {p : Tk3} (hp : Sp.tok l x = some p) (he : e = 61 ∨ e = 62) : U l m i (some (.bad p.2.2 e j)) := ⟨_, rfl, ⟨x, p, hp, rfl⟩, he⟩
theorem u_ok {i x j : Int} {t : Tr} (hi : i ≤ x) (hx : x < j) (hj : j ≤ m) (hW : W l x t) : U l m i (some (.ok t j)) := ⟨_, rfl, x, hi, hx, hj, hW⟩
theorem u_if {i : Int} {c : Bool} {a b : Option PR} (ha : c = true → U l m i a) (hb : c = false → U l m i b) : U l m i (bif c then a else b) := by
  cases c
  · exact hb rfl
  · exact ha rfl
theorem u_call {i i' : Int} {c : Option PR} {K : Tr → Int → Option PR} (hc : U l m i' c) (hK : ∀ t j x, i' ≤ x → x < j → j ≤ m → W l x t → U l m i (K t j)) : U l m i (Sp.call c K) := by
  obtain ⟨out, rfl, hg⟩ := hc
  cases out with
  | ok t j => obtain ⟨x, h1, h2, h3, h4⟩ := hg; exact hK t j x h1 h2 h3 h4
  | bad a e j => exact ⟨_, rfl, hg⟩
theorem u_callN {i i' : Int} {c : Option PN} {K : List D → Int → Option PR} (hc : UN l m i' c) (hK : ∀ ns j, i' < j → j ≤ m → (∀ n ∈ ns, ∃ s, n = D.str s) → (ns.length : Int) ≤ m → U l m i (K ns j)) : U l m i (Sp.callN c K) := by
  obtain ⟨out, rfl, hg⟩ := hc
  cases out with
  | ok t j => obtain ⟨h1, h2, h3, h4⟩ := hg; exact hK t j h1 h2 h3 h4
  | bad a e j => exact ⟨_, rfl, hg⟩
theorem u_tok (h : Toks l m N) {i x : Int} {F : Tk3 → Option PR} (h0 : 0 ≤ x) (h1 : x ≤ m) (hF : ∀ p, Sp.tok l x = some p → U l m i (F p)) : U l m i (optK (Sp.tok l x) F) := by
  obtain ⟨p, hp⟩ := h.at_ x h0 (by omega)
  rw [hp]
  exact hF p hp
theorem u_want (h : Toks l m N) {i x : Int} {s : List UInt8} {K : Int → Option PR} (h0 : 0 ≤ x) (h1 : x ≤ m) (hK : x + 1 ≤ m → U l m i (K (x + 1))) : U l m i (Sp.want l x s K) := by
  refine u_tok h h0 h1 fun p hp => u_if (fun hs => ?_) fun _ => u_bad hp (.inl rfl)
  have := h.sign hp hs
  rw [up_at hp]
  exact hK (by omega)
theorem u_name (h : Toks l m N) {i x : Int} {K : List UInt8 → Int → Option PR} (h0 : 0 ≤ x) (h1 : x ≤ m) (hK : ∀ p, Sp.tok l x = some p → p.1 = 1 → x + 1 ≤ m → U l m i (K p.2.1 (x + 1))) : U l m i (Sp.name l x K) := by
  refine u_tok h h0 h1 fun p hp => u_if (fun hs => ?_) fun _ => u_bad hp (.inl rfl)
  have := h.nm hp hs
  rw [up_at hp]
  exact hK p hp (of_decide_eq_true hs) (by omega)
theorem u_must {i : Int} {c : Bool} {a : Option PR} (hc : c = true) (ha : U l m i a) : U l m i (must c a) := by rw [hc]; exact ha
theorem short_of {k : List D} {n : Int} (h : (k.length : Int) ≤ n) (hn : n ≤ 100000) : Sp.short k = true := decide_eq_true (by omega)

/-- What is shown of the functions with some fuel. -/
structure UU (l : List D) (m : Nat) (k : Nat) : Prop where
  names : ∀ i : Int, 0 ≤ i → i ≤ m → 8 * (m - i) + 3 ≤ k → UN l m i ((Sp.tbl k).names l i)
  face : ∀ i : Int, 0 ≤ i → i ≤ m → 8 * (m - i) + 3 ≤ k → U l m i ((Sp.tbl k).face l i)
  term : ∀ i v : Int, 0 ≤ i → i ≤ m → 8 * (m - i) + 6 ≤ k → U l m i ((Sp.tbl k).term l i v)
  after : ∀ (i v : Int) t x i0, 0 ≤ i0 → i0 ≤ x → x < i → i ≤ m → W l x t → 8 * (m - i) + 5 ≤ k → U l m i0 ((Sp.tbl k).after l i v t)
  atom : ∀ i v : Int, 0 ≤ i → i ≤ m → 8 * (m - i) + 4 ≤ k → U l m i ((Sp.tbl k).atom l i v)
  box : ∀ (i v : Int) p, 0 ≤ i → i ≤ m → Sp.tok l i = some p → Sp.isS p [91] = true → 8 * (m - i) + 3 ≤ k → U l m i ((Sp.tbl k).box l i v)
  join : ∀ i v : Int, 0 ≤ i → i ≤ m → 8 * (m - i) + 5 ≤ k → U l m i ((Sp.tbl k).join l i v)
  meet : ∀ i v : Int, 0 ≤ i → i ≤ m → 8 * (m - i) + 4 ≤ k → U l m i ((Sp.tbl k).meet l i v)
  dim : ∀ i v : Int, 0 ≤ i → i ≤ m → 8 * (m - i) + 3 ≤ k → U l m i ((Sp.tbl k).dim l i v)

theorem kids_none {x : Int} : ∀ d ∈ ([] : List D), ∃ u y, d = trD u ∧ x ≤ y ∧ W l y u := fun d hd => by cases hd
theorem kids_one {x y : Int} {t : Tr} (h : W l y t) (hx : x ≤ y) : ∀ d ∈ [trD t], ∃ u y, d = trD u ∧ x ≤ y ∧ W l y u := fun d hd => by
  rcases List.mem_singleton.1 hd with rfl
  exact ⟨t, y, rfl, hx, h⟩
theorem kids_two {x y z : Int} {t u : Tr} (h : W l y t) (hx : x ≤ y) (h' : W l z u) (hx' : x ≤ z) : ∀ d ∈ [trD t, trD u], ∃ u y, d = trD u ∧ x ≤ y ∧ W l y u := fun d hd => by
  simp only [List.mem_cons, List.not_mem_nil, or_false] at hd
  rcases hd with rfl | rfl
  · exact ⟨t, y, rfl, hx, h⟩
  · exact ⟨u, z, rfl, hx', h'⟩
theorem nms_none : ∀ n ∈ ([] : List D), ∃ s, n = D.str s := fun d hd => by cases hd
theorem nms_one {s : List UInt8} : ∀ n ∈ [D.str s], ∃ s, n = D.str s := fun d hd => ⟨s, List.mem_singleton.1 hd⟩
theorem W_leaf {x k : Int} {p : Tk3} (hp : Sp.tok l x = some p) (h1 : 1 ≤ k) (h2 : k ≤ 17) : W l x ⟨k, p.2.1, [], [], p.2.2⟩ :=
  .mk hp rfl (fun _ => rfl) h1 h2 nms_none kids_none (show 0 < 4294967296 by decide) (show 0 < 4294967296 by decide)
theorem W_node {x k : Int} {p : Tk3} {s : List UInt8} {kids nms : List D} (hp : Sp.tok l x = some p) (h1 : 2 ≤ k) (h2 : k ≤ 17) (hn : ∀ n ∈ nms, ∃ s, n = D.str s) (hk : ∀ d ∈ kids, ∃ u y, d = trD u ∧ x ≤ y ∧ W l y u)
    (hl : (kids.length : Int) ≤ 200000) (hl' : (nms.length : Int) ≤ 200000) : W l x ⟨k, s, kids, nms, p.2.2⟩ :=
  .mk hp rfl (fun h => by have : k = 1 := h; omega) (by show 1 ≤ k; omega) h2 hn hk (by show kids.length < _; omega) (by show nms.length < _; omega)
theorem W_at {x : Int} {t : Tr} (h : W l x t) : ∃ p, Sp.tok l x = some p ∧ t.pl = p.2.2 := by cases h with | intro n h => cases n with
  | zero => exact h.elim
  | succ n => obtain ⟨p, hp, he, _⟩ := h; exact ⟨p, hp, he⟩

theorem names_loop (h : Toks l m N) {i0 : Int} : ∀ (r : Nat) (i : Int) (ns : List D), 0 ≤ i → i ≤ m → i0 < i → (∀ n ∈ ns, ∃ s, n = D.str s) → (ns.length : Int) ≤ i → m - i < r → UN l m i0 (Sp.namesL r l i ns)
  | 0, i, ns, h0, h1, _, _, _, hr => by omega
  | r + 1, i, ns, h0, h1, hi, hn, hl, hr => by
    obtain ⟨p, hp⟩ := h.at_ i h0 (by omega)
    rw [Sp.namesL, hp, optK_now]
    cases hk : decide (p.1 = 1)
    · exact ⟨_, rfl, hi, h1, hn, by omega⟩
    · have := h.nm hp hk
      have hs := h.small
      rw [cond_true, up_at hp, short_of (n := (m : Int)) (by omega) (by omega), must, cond_true]
      exact names_loop h r (i + 1) _ (by omega) (by omega) (by omega) (fun n hn' => by
        rcases List.mem_append.1 hn' with h' | h'
        · exact hn n h'
        · exact nms_one n h') (by simp; omega) (by omega)

theorem face_loop (h : Toks l m N) {i0 x : Int} {q : Tk3} (hq : Sp.tok l x = some q) (hx0 : i0 ≤ x) : ∀ (r : Nat) (i : Int) (kids : List D), 0 ≤ i → x ≤ i → i ≤ m → (∀ d ∈ kids, ∃ u y, d = trD u ∧ x ≤ y ∧ W l y u) → (kids.length : Int) ≤ i → m - i < r → U l m i0 (Sp.faceL r l i kids q.2.2)
  | 0, i, _, h0, _, h1, _, _, hr => by omega
  | r + 1, i, kids, h0, hxi, h1, hk, hl, hr => by
    have hs := h.small
    rw [Sp.faceL]
    refine u_tok h h0 h1 fun p hp => u_if (fun hb => ?_) fun _ => u_bad hp (.inl rfl)
    have := h.sign hp hb
    rw [up_at hp]
    refine u_name h (by omega) (by omega) fun s hs' hs1 hs2 => ?_
    refine u_want h (by omega) (by omega) fun h3 => ?_
    refine u_tok h (by omega) (by omega) fun w hw => u_if (fun hb' => ?_) fun _ => u_bad hw (.inl rfl)
    have hw1 : i + 1 + 1 + 1 < m := by
      rcases Bool.or_eq_true _ _ |>.mp hb' with h | h
      · exact Toks.sign ‹Toks l m N› hw h
      · exact Toks.sign ‹Toks l m N› hw h
    rw [up_at hw]
    refine u_want h (by omega) (by omega) fun h4 => ?_
    refine u_must (short_of (n := (m : Int)) (by omega) (by omega)) ?_
    have hW : W l i ⟨13, s.2.1, [], [.str w.2.1], p.2.2⟩ := W_node hp (by decide) (by decide) nms_one kids_none (by decide) (by simp)
    have hks : ∀ d ∈ kids ++ [trD ⟨13, s.2.1, [], [.str w.2.1], p.2.2⟩], ∃ u y, d = trD u ∧ x ≤ y ∧ W l y u := fun d hd => by
      rcases List.mem_append.1 hd with h' | h'
      · exact hk d h'
      · exact kids_one hW hxi d h'
    refine u_tok h (by omega) (by omega) fun y hy => u_if (fun _ => ?_) fun _ => ?_
    · exact face_loop h hq hx0 r _ _ (by omega) (by omega) (by omega) hks (by simp; omega) (by omega)
    · exact u_ok hx0 (by omega) (by omega) (W_node hq (by decide) (by decide) nms_none hks (by simp; omega) (by decide))

theorem box_loop (h : Toks l m N) {k : Nat} (hU : UU l m k) {i0 x v : Int} {q : Tk3} (hq : Sp.tok l x = some q) (hx0 : i0 ≤ x) (h00 : 0 ≤ i0) : ∀ (r : Nat) (i : Int) (kids : List D), x < i → i ≤ m → (∀ d ∈ kids, ∃ u y, d = trD u ∧ x ≤ y ∧ W l y u) → (kids.length : Int) ≤ i → m - i < r → 8 * (m - i) + 6 ≤ k → U l m i0 (Sp.boxL (Sp.tbl k) r l i v kids q.2.2)
  | 0, i, _, _, h1, _, _, hr, _ => by omega
  | r + 1, i, kids, hxi, h1, hk, hl, hr, hf => by
    have hs := h.small
    rw [Sp.boxL]
    refine u_tok h (by omega) h1 fun p hp => u_if (fun hb => ?_) fun _ => ?_
    · have := h.sign hp hb
      rw [up_at hp]
      exact u_ok hx0 (by omega) (by omega) (W_node hq (by decide) (by decide) nms_none hk (by omega) (by decide))
    · have step : ∀ j : Int, i ≤ j → j ≤ m → U l m i0 (optK (Sp.tok l j) fun q_1 => Sp.call ((Sp.tbl k).face l j) fun f j => optK (Sp.tok l j) fun u =>
          bif Sp.isS u [45, 62] then Sp.call ((Sp.tbl k).term l (up j) (up v)) fun t j => must (Sp.short kids) (Sp.boxL (Sp.tbl k) r l j v (kids ++ [trD ⟨11, [], [trD f, trD t], [], q_1.2.2⟩]) q.2.2)
          else must (Sp.short kids) (Sp.boxL (Sp.tbl k) r l j v (kids ++ [trD ⟨11, [], [trD f], [], q_1.2.2⟩]) q.2.2)) := by
        intro j hj hjm
        refine u_tok h (by omega) hjm fun w hw => ?_
        refine u_call (hU.face j (by omega) hjm (by omega)) fun f j2 y hy hy2 hj2 hWf => ?_
        refine u_tok h (by omega) hj2 fun z hz => u_if (fun hb' => ?_) fun _ => ?_
        · have := h.sign hz hb'
          rw [up_at hz]
          refine u_call (hU.term (j2 + 1) _ (by omega) (by omega) (by omega)) fun t j3 y' hy' hy2' hj3 hWt => ?_
          refine u_must (short_of (n := (m : Int)) (by omega) (by omega)) ?_
          have hW : W l j ⟨11, [], [trD f, trD t], [], w.2.2⟩ := W_node hw (by decide) (by decide) nms_none (kids_two hWf (by omega) hWt (by omega)) (by simp) (by decide)
          refine box_loop h hU hq hx0 h00 r j3 _ (by omega) hj3 (fun d hd => ?_) (by simp; omega) (by omega) (by omega)
          rcases List.mem_append.1 hd with h' | h'
          · exact hk d h'
          · exact kids_one hW (by omega) d h'
        · refine u_must (short_of (n := (m : Int)) (by omega) (by omega)) ?_
          have hW : W l j ⟨11, [], [trD f], [], w.2.2⟩ := W_node hw (by decide) (by decide) nms_none (kids_one hWf (by omega)) (by simp) (by decide)
          refine box_loop h hU hq hx0 h00 r j2 _ (by omega) hj2 (fun d hd => ?_) (by simp; omega) (by omega) (by omega)
          rcases List.mem_append.1 hd with h' | h'
          · exact hk d h'
          · exact kids_one hW (by omega) d h'
      unfold Sp.comma
      refine u_if (fun _ => u_want h (by omega) h1 fun h2 => step _ (by omega) h2) fun _ => step i (by omega) h1

theorem after_loop (h : Toks l m N) {k : Nat} (hU : UU l m k) {i0 v : Int} (h00 : 0 ≤ i0) : ∀ (r : Nat) (i x : Int) (t : Tr), i0 ≤ x → x < i → i ≤ m → W l x t → m - i < r → 8 * (m - i) + 4 ≤ k → U l m i0 (Sp.afterG (Sp.tbl k) r l i v t)
  | 0, i, _, _, _, _, h1, _, hr, _ => by omega
  | r + 1, i, x, t, hx0, hxi, h1, hW, hr, hf => by
    rw [Sp.afterG]
    obtain ⟨q, hq, hqe⟩ := W_at hW
    refine u_tok h (by omega) h1 fun p hp => u_if (fun hb => ?_) fun _ => u_if (fun _ => ?_) fun _ => u_if (fun hb => ?_) fun _ => u_ok hx0 hxi h1 hW
    · have := h.sign hp hb
      rw [up_at hp]
      refine u_call (hU.dim (i + 1) _ (by omega) (by omega) (by omega)) fun u j y hy hyj hj hWu => ?_
      refine after_loop h hU h00 r j x _ hx0 (by omega) hj ?_ (by omega) (by omega)
      rw [hqe]
      exact W_node hq (by decide) (by decide) nms_none (kids_two hW (by omega) hWu (by omega)) (by simp) (by decide)
    · refine u_call (hU.atom i _ (by omega) (by omega) (by omega)) fun u j y hy hyj hj hWu => ?_
      refine after_loop h hU h00 r j x _ hx0 (by omega) hj ?_ (by omega) (by omega)
      rw [hqe]
      exact W_node hq (by decide) (by decide) nms_none (kids_two hW (by omega) hWu (by omega)) (by simp) (by decide)
    · have ha := arr_pos hb
      have := h.lt hp (.inr ha.1)
      rw [up_at hp]
      refine u_call (hU.term (i + 1) _ (by omega) (by omega) (by omega)) fun u j y hy hyj hj hWu => ?_
      refine u_ok hx0 (by omega) hj ?_
      rw [hqe]
      exact W_node hq (by omega) (by omega) nms_none (kids_two hW (by omega) hWu (by omega)) (by simp) (by decide)

theorem join_loop (h : Toks l m N) {k : Nat} (hU : UU l m k) {i0 v : Int} (h00 : 0 ≤ i0) : ∀ (r : Nat) (i x : Int) (t : Tr), i0 ≤ x → x < i → i ≤ m → W l x t → m - i < r → 8 * (m - i) + 1 ≤ k → U l m i0 (Sp.joinL (Sp.tbl k) r l i v t)
  | 0, i, _, _, _, _, h1, _, hr, _ => by omega
  | r + 1, i, x, t, hx0, hxi, h1, hW, hr, hf => by
    rw [Sp.joinL]
    obtain ⟨q, hq, hqe⟩ := W_at hW
    refine u_tok h (by omega) h1 fun p hp => u_if (fun hb => ?_) fun _ => u_ok hx0 hxi h1 hW
    have := h.sign hp hb
    rw [up_at hp]
    refine u_call (hU.meet (i + 1) _ (by omega) (by omega) (by omega)) fun u j y hy hyj hj hWu => ?_
    refine join_loop h hU h00 r j x _ hx0 (by omega) hj ?_ (by omega) (by omega)
    rw [hqe]
    exact W_node hq (by decide) (by decide) nms_none (kids_two hW (by omega) hWu (by omega)) (by simp) (by decide)

theorem meet_loop (h : Toks l m N) {k : Nat} (hU : UU l m k) {i0 v : Int} (h00 : 0 ≤ i0) : ∀ (r : Nat) (i x : Int) (t : Tr), i0 ≤ x → x < i → i ≤ m → W l x t → m - i < r → 8 * (m - i) + 1 ≤ k → U l m i0 (Sp.meetL (Sp.tbl k) r l i v t)
  | 0, i, _, _, _, _, h1, _, hr, _ => by omega
  | r + 1, i, x, t, hx0, hxi, h1, hW, hr, hf => by
    rw [Sp.meetL]
    obtain ⟨q, hq, hqe⟩ := W_at hW
    refine u_tok h (by omega) h1 fun p hp => u_if (fun hb => ?_) fun _ => u_ok hx0 hxi h1 hW
    have := h.sign hp hb
    rw [up_at hp]
    refine u_call (hU.dim (i + 1) _ (by omega) (by omega) (by omega)) fun u j y hy hyj hj hWu => ?_
    refine meet_loop h hU h00 r j x _ hx0 (by omega) hj ?_ (by omega) (by omega)
    rw [hqe]
    exact W_node hq (by decide) (by decide) nms_none (kids_two hW (by omega) hWu (by omega)) (by simp) (by decide)

theorem binds_is (h : Toks l m N) {i : Int} {p : Tk3} (hp : Sp.tok l i = some p) : ∃ b, Sp.binds l i = some b ∧ (b = true → Sp.isS p [40] = true ∧ i + 2 < m ∧ ∃ q, Sp.tok l (i + 1) = some q ∧ q.1 = 1) := by
  have h0 := tok_spec hp
  unfold Sp.binds
  rw [hp, optK_now]
  cases hs : Sp.isS p [40]
  · exact ⟨false, rfl, fun h => by cases h⟩
  · have hi := h.sign hp hs
    obtain ⟨q, hq⟩ := h.at_ (i + 1) (by omega) (by omega)
    rw [cond_true, hq, optK_now]
    cases hk : decide (q.1 = 1)
    · exact ⟨false, rfl, fun h => by cases h⟩
    · have hi1 := h.nm hq hk
      obtain ⟨r, hr⟩ := h.at_ (i + 2) (by omega) (by omega)
      rw [cond_true, hr, optK_now]
      refine ⟨_, rfl, fun hb => ⟨rfl, ?_, q, rfl, of_decide_eq_true hk⟩⟩
      by_cases hlt : i + 2 < m
      · exact hlt
      · have := (h.fin _ r hr (by omega)).2
        rw [this] at hb
        exact absurd hb (by decide)

theorem UU_all (h : Toks l m N) : ∀ k, UU l m k
  | 0 => by constructor <;> intros <;> omega
  | k + 1 => by
    have hU := UU_all h k
    have hs := h.small
    constructor
    · -- names
      intro i h0 h1 hf
      show UN l m i (Sp.namesG k l i)
      unfold Sp.namesG
      obtain ⟨p, hp⟩ := h.at_ i h0 (by omega)
      rw [hp, optK_now]
      cases hk : decide (p.1 = 1)
      · exact ⟨_, rfl, ⟨i, p, hp, rfl⟩, .inl rfl⟩
      · have := h.nm hp hk
        rw [cond_true, up_at hp]
        exact names_loop h k (i + 1) _ (by omega) (by omega) (by omega) nms_one (by simp; omega) (by omega)
    · -- face
      intro i h0 h1 hf
      show U l m i (Sp.faceG k l i)
      unfold Sp.faceG
      refine u_tok h h0 h1 fun p hp => u_if (fun hb => ?_) fun _ => ?_
      · have := h.sign hp hb
        rw [up_at hp]
        exact u_ok (Int.le_refl _) (by omega) (by omega) (W_node hp (by decide) (by decide) nms_none kids_none (by decide) (by decide))
      · exact face_loop h hp (Int.le_refl _) k i [] h0 (Int.le_refl _) h1 kids_none (by simpa using h0) (by omega)
    · -- term
      intro i v h0 h1 hf
      show U l m i (Sp.termG (Sp.tbl k) l i v)
      unfold Sp.termG
      refine u_tok h h0 h1 fun p hp => u_if (fun _ => u_bad hp (.inr rfl)) fun _ => u_if (fun hb => ?_) fun _ => u_if (fun hb => ?_) fun _ => ?_
      · have := h.sign hp hb
        rw [up_at hp]
        refine u_callN (hU.names (i + 1) (by omega) (by omega) (by omega)) fun ns j hj hjm hn hl => ?_
        refine u_want h (by omega) hjm fun h2 => ?_
        refine u_call (hU.term (j + 1) _ (by omega) h2 (by omega)) fun t j2 y hy hyj hj2 hWt => ?_
        exact u_ok (Int.le_refl _) (by omega) hj2 (W_node hp (by decide) (by decide) hn (kids_one hWt (by omega)) (by simp) (by omega))
      · have := h.sign hp hb
        rw [up_at hp]
        refine u_callN (hU.names (i + 1) (by omega) (by omega) (by omega)) fun ns j hj hjm hn hl => ?_
        refine u_want h (by omega) hjm fun h2 => ?_
        refine u_call (hU.term (j + 1) _ (by omega) h2 (by omega)) fun t j2 y hy hyj hj2 hWt => ?_
        exact u_ok (Int.le_refl _) (by omega) hj2 (W_node hp (by decide) (by decide) hn (kids_one hWt (by omega)) (by simp) (by omega))
      · obtain ⟨b, hb, hbt⟩ := binds_is h hp
        rw [hb, optK_now]
        refine u_if (fun hb' => ?_) fun _ => ?_
        · obtain ⟨hb1, hb2, q, hq, hq1⟩ := hbt hb'
          rw [up_at hp, hq, optK_now, up_at hq]
          have e : up (i + 1 + 1) = i + 3 := by
            obtain ⟨r, hr⟩ := h.at_ (i + 1 + 1) (by omega) (by omega)
            rw [up_at hr]; omega
          rw [e]
          refine u_call (hU.term (i + 3) _ (by omega) (by omega) (by omega)) fun a j y hy hyj hj hWa => ?_
          refine u_want h (by omega) hj fun h2 => ?_
          refine u_tok h (by omega) h2 fun w hw => u_if (fun hb3 => ?_) fun _ => ?_
          · have ha := arr_pos hb3
            have := h.lt hw (.inr ha.1)
            rw [up_at hw]
            refine u_call (hU.term (j + 1 + 1) _ (by omega) (by omega) (by omega)) fun t j2 y2 hy2 hyj2 hj2 hWt => ?_
            exact u_ok (Int.le_refl _) (by omega) hj2 (W_node hp (by omega) (by omega) nms_one (kids_two hWa (by omega) hWt (by omega)) (by simp) (by simp))
          · have hWx : W l (i + 1) ⟨1, q.2.1, [], [], q.2.2⟩ := W_leaf hq (by decide) (by decide)
            refine hU.after (j + 1) _ _ i i h0 (Int.le_refl _) (by omega) h2 ?_ (by omega)
            exact W_node hp (by decide) (by decide) nms_none (kids_two hWx (by omega) hWa (by omega)) (by simp) (by decide)
        · refine u_call (hU.atom i _ h0 h1 (by omega)) fun t j x hx hxj hj hWt => ?_
          exact hU.after j _ t x i h0 hx hxj hj hWt (by omega)
    · -- after
      intro i v t x i0 h0 hx hxi h1 hW hf
      exact after_loop h hU h0 k i x t hx hxi h1 hW (by omega) (by omega)
    · -- atom
      intro i v h0 h1 hf
      show U l m i (Sp.atomG (Sp.tbl k) l i v)
      unfold Sp.atomG
      refine u_tok h h0 h1 fun p hp => u_if (fun hb => ?_) fun _ => u_if (fun hb => ?_) fun _ => u_if (fun hb => ?_) fun _ => u_bad hp (.inl rfl)
      · have := h.nm hp hb
        rw [up_at hp]
        exact u_ok (Int.le_refl _) (by omega) (by omega) (W_leaf hp (by decide) (by decide))
      · exact hU.box i v p h0 h1 hp hb (by omega)
      · have := h.sign hp hb
        rw [up_at hp]
        refine u_call (hU.term (i + 1) _ (by omega) (by omega) (by omega)) fun t j x hx hxj hj hWt => ?_
        refine u_tok h (by omega) hj fun q hq => u_if (fun hb => ?_) fun _ => u_if (fun hb => ?_) fun _ => u_if (fun hb => ?_) fun _ => u_bad hq (.inl rfl)
        · have := h.sign hq hb
          rw [up_at hq]
          refine u_call (hU.term (j + 1) _ (by omega) (by omega) (by omega)) fun u j2 y hy hyj hj2 hWu => ?_
          refine u_want h (by omega) hj2 fun h2 => ?_
          exact u_ok (Int.le_refl _) (by omega) h2 (W_node hp (by decide) (by decide) nms_none (kids_two hWt (by omega) hWu (by omega)) (by simp) (by decide))
        · have := h.sign hq hb
          rw [up_at hq]
          refine u_call (hU.term (j + 1) _ (by omega) (by omega) (by omega)) fun u j2 y hy hyj hj2 hWu => ?_
          refine u_want h (by omega) hj2 fun h2 => ?_
          exact u_ok (Int.le_refl _) (by omega) h2 (W_node hp (by decide) (by decide) nms_none (kids_two hWt (by omega) hWu (by omega)) (by simp) (by decide))
        · have := h.sign hq hb
          rw [up_at hq]
          exact u_ok (x := x) (by omega) (by omega) (by omega) hWt
    · -- box
      intro i v p h0 h1 hp hb hf
      show U l m i (Sp.boxG (Sp.tbl k) k l i v)
      have := h.sign hp hb
      unfold Sp.boxG
      rw [hp, optK_now, up_at hp]
      exact box_loop h hU hp (Int.le_refl _) h0 k (i + 1) [] (by omega) (by omega) kids_none (by simp; omega) (by omega) (by omega)
    · -- join
      intro i v h0 h1 hf
      show U l m i (Sp.joinG (Sp.tbl k) k l i v)
      unfold Sp.joinG
      refine u_call (hU.meet i _ h0 h1 (by omega)) fun t j x hx hxj hj hWt => ?_
      exact join_loop h hU h0 k j x t hx hxj hj hWt (by omega) (by omega)
    · -- meet
      intro i v h0 h1 hf
      show U l m i (Sp.meetG (Sp.tbl k) k l i v)
      unfold Sp.meetG
      refine u_call (hU.dim i _ h0 h1 (by omega)) fun t j x hx hxj hj hWt => ?_
      exact meet_loop h hU h0 k j x t hx hxj hj hWt (by omega) (by omega)
    · -- dim
      intro i v h0 h1 hf
      show U l m i (Sp.dimG (Sp.tbl k) l i v)
      unfold Sp.dimG
      refine u_tok h h0 h1 fun p hp => u_if (fun _ => u_bad hp (.inr rfl)) fun _ => u_if (fun hb => ?_) fun _ => u_if (fun hb => ?_) fun _ => u_if (fun hb => ?_) fun _ => u_if (fun hb => ?_) fun _ => u_bad hp (.inl rfl)
      · have := h.nm hp hb
        rw [up_at hp]
        exact u_ok (Int.le_refl _) (by omega) (by omega) (W_leaf hp (by decide) (by decide))
      · have : i < m := by
          rcases Bool.or_eq_true _ _ |>.mp hb with h' | h'
          · exact h.sign hp h'
          · exact h.sign hp h'
        rw [up_at hp]
        exact u_ok (Int.le_refl _) (by omega) (by omega) (W_leaf hp (by decide) (by decide))
      · have := h.sign hp hb
        rw [up_at hp]
        refine u_call (hU.dim (i + 1) _ (by omega) (by omega) (by omega)) fun t j x hx hxj hj hWt => ?_
        exact u_ok (Int.le_refl _) (by omega) hj (W_node hp (by decide) (by decide) nms_none (kids_one hWt (by omega)) (by simp) (by decide))
      · have := h.sign hp hb
        rw [up_at hp]
        refine u_call (hU.join (i + 1) _ (by omega) (by omega) (by omega)) fun t j x hx hxj hj hWt => ?_
        refine u_want h (by omega) hj fun h2 => ?_
        exact u_ok (x := x) (by omega) (by omega) h2 hWt

end
end Go.Vai
end

section
namespace Go.Vai
open Go.Proofs

theorem tokD_inj {k k' : Int} {t t' : List UInt8} {a a' : Int} (h : tokD k t a = tokD k' t' a') : k = k' ∧ t = t' ∧ a = a' := by
  cases h; exact ⟨rfl, rfl, rfl⟩

theorem cov_is {s : List UInt8} {e : Nat} {l : List D} (h : Cov s e l) : ∀ (x : Nat) d, l[x]? = some d → ∃ k t a, d = tokD k t a ∧ (e : Int) ≤ a ∧ a ≤ s.length ∧ ((x + 1 < l.length ∧ (k = 1 ∨ k = 2)) ∨ (x + 1 = l.length ∧ k = 0 ∧ t = [])) := by
  induction h with
  | @fin e he hp =>
    intro x d hd
    cases x with
    | zero => simp at hd; subst hd; exact ⟨0, [], _, rfl, by omega, Int.le_refl _, .inr ⟨rfl, rfl, rfl⟩⟩
    | succ x => simp at hd
  | @tok e j k t rest he hp hlt ho hne hr ih =>
    intro x d hd
    have hb := past_bounds he
    rw [hp] at hb
    have hr0 := hr.ne
    cases x with
    | zero =>
      simp at hd; subst hd
      refine ⟨k, t, _, rfl, by omega, by omega, .inl ⟨by simp; omega, ?_⟩⟩
      rcases tk_of_one ho hne with h | h
      · exact .inl h.1
      · exact .inr h.1
    | succ x =>
      obtain ⟨k', t', a, h1, h2, h3, h4⟩ := ih x d (by simpa using hd)
      refine ⟨k', t', a, h1, by omega, h3, ?_⟩
      simp only [List.length_cons]
      rcases h4 with h4 | h4
      · exact .inl ⟨by omega, h4.2⟩
      · exact .inr ⟨by omega, h4.2⟩

theorem cov_lt {s : List UInt8} {e : Nat} {l : List D} (h : Cov s e l) : ∀ (x y : Nat) k t a k' t' a', x < y → l[x]? = some (tokD k t a) → l[y]? = some (tokD k' t' a') → a < a' := by
  induction h with
  | @fin e he hp => intro x y k t a k' t' a' hxy hx hy; obtain ⟨y, rfl⟩ : ∃ i, y = i + 1 := ⟨y - 1, by omega⟩; simp at hy
  | @tok e j k t rest he hp hlt ho hne hr ih =>
    intro x y k1 t1 a k' t' a' hxy hx hy
    obtain ⟨y, rfl⟩ : ∃ i, y = i + 1 := ⟨y - 1, by omega⟩
    have hy' : rest[y]? = some (tokD k' t' a') := by simpa using hy
    cases x with
    | zero =>
      have e1 : tokD k t (j : Int) = tokD k1 t1 a := by simpa using hx
      obtain ⟨_, _, rfl⟩ := tokD_inj e1
      obtain ⟨k2, t2, a2, h1, h2, _⟩ := cov_is hr y _ hy'
      obtain ⟨_, _, rfl⟩ := tokD_inj h1
      have : 0 < t.length := List.length_pos_iff.2 hne
      omega
    | succ x => exact ih x y k1 t1 a k' t' a' (by omega) (by simpa using hx) hy'

theorem tok_of_get {l : List D} {x : Nat} {k : Int} {t : List UInt8} {a : Int} (h : l[x]? = some (tokD k t a)) (hx : x < 4294967296) : Sp.tok l (x : Int) = some (k, t, a) := by
  unfold Sp.tok
  rw [decide_eq_true (p := (0 : Int) ≤ (x : Int)) (by omega), decide_eq_true (p := (x : Int) < 4294967296) (by omega), Bool.and_self, cond_true, Int.toNat_natCast, h]
  rfl

/-- A reader's tokens out of a text's. -/
theorem ext_tok {I : List D} {E : D} {x : Int} {p : Tk3} (h : Sp.tok (Sp.ext (I ++ [E])) x = some p) : 0 ≤ x ∧ ∃ y : Nat, (I ++ [E])[y]? = some (tokD p.1 p.2.1 p.2.2) ∧ ((x < I.length ∧ (y : Int) = x) ∨ ((I.length : Int) ≤ x ∧ y = I.length)) := by
  obtain ⟨h0, h1, _, h3⟩ := tok_spec h
  refine ⟨h0, ?_⟩
  rw [ext_snoc] at h3 h1
  by_cases hx : x.toNat < I.length
  · refine ⟨x.toNat, ?_, .inl ⟨by omega, by omega⟩⟩
    rw [List.append_assoc, List.getElem?_append_left hx] at h3
    rw [List.getElem?_append_left hx]; exact h3
  · refine ⟨I.length, ?_, .inr ⟨by omega, rfl⟩⟩
    rw [List.append_assoc, List.getElem?_append_right (by omega)] at h3
    rw [List.getElem?_concat_length]
    simp only [List.length_append, List.length_cons, List.length_nil] at h1
    obtain ⟨i, hi⟩ : ∃ i, x.toNat - I.length = i := ⟨_, rfl⟩
    rw [hi] at h3
    have : i < 3 := by omega
    match i, this with
    | 0, _ => exact h3
    | 1, _ => exact h3
    | 2, _ => exact h3

theorem ext_get (I : List D) (E : D) (x : Int) (h0 : 0 ≤ x) (h1 : x ≤ (I.length : Int) + 2) : ∃ y : Nat, (Sp.ext (I ++ [E]))[x.toNat]? = (I ++ [E])[y]? ∧ y < (I ++ [E]).length := by
  rw [ext_snoc]
  by_cases hx : x.toNat < I.length
  · refine ⟨x.toNat, ?_, by simp; omega⟩
    rw [List.append_assoc, List.getElem?_append_left hx, List.getElem?_append_left hx]
  · refine ⟨I.length, ?_, by simp⟩
    rw [List.append_assoc, List.getElem?_append_right (by omega), List.getElem?_concat_length]
    obtain ⟨i, hi⟩ : ∃ i, x.toNat - I.length = i := ⟨_, rfl⟩
    rw [hi]
    have : i < 3 := by omega
    match i, this with
    | 0, _ => rfl
    | 1, _ => rfl
    | 2, _ => rfl

theorem toks_of {s : List UInt8} (hs : s.length ≤ 65536) {I : List D} {E : D} (h : Cov s 0 (I ++ [E])) (hl : (I ++ [E]).length ≤ 65537) : Toks (Sp.ext (I ++ [E])) I.length (s.length : Int) := by
  have hlen : (I ++ [E]).length = I.length + 1 := by simp
  constructor
  · intro x h0 h1
    obtain ⟨y, h2, h3⟩ := ext_get I E x h0 h1
    obtain ⟨k, t, a, h4, _⟩ := cov_is h y _ (List.getElem?_eq_getElem h3)
    rw [List.getElem?_eq_getElem h3, h4] at h2
    have := tok_of_get h2 (by omega)
    rw [show ((x.toNat : Nat) : Int) = x by omega] at this
    exact ⟨_, this⟩
  · intro x p hp hx
    obtain ⟨h0, y, hy, h1⟩ := ext_tok hp
    obtain ⟨k, t, a, h4, _, _, h5⟩ := cov_is h y _ hy
    obtain ⟨rfl, _, _⟩ := tokD_inj h4
    omega
  · intro x p hp hx
    obtain ⟨h0, y, hy, h1⟩ := ext_tok hp
    obtain ⟨k, t, a, h4, _, _, h5⟩ := cov_is h y _ hy
    obtain ⟨rfl, rfl, _⟩ := tokD_inj h4
    rcases h5 with h5 | h5
    · omega
    · exact h5.2
  · omega
  · intro x y p q hp hq hxy
    obtain ⟨h0, x', hx', h1⟩ := ext_tok hp
    obtain ⟨h0', y', hy', h1'⟩ := ext_tok hq
    by_cases hlt : x' < y'
    · have := cov_lt h x' y' _ _ _ _ _ _ hlt hx' hy'; omega
    · have : x' = y' := by omega
      subst this
      rw [hx'] at hy'
      obtain ⟨_, _, h6⟩ := tokD_inj (Option.some.inj hy')
      omega
  · intro x p hp
    obtain ⟨h0, y, hy, h1⟩ := ext_tok hp
    obtain ⟨k, t, a, h4, h5, h6, _⟩ := cov_is h y _ hy
    obtain ⟨_, _, rfl⟩ := tokD_inj h4
    exact ⟨by omega, h6⟩

/-- A text that has tokens, and what a reader has. -/
structure Text (s : List UInt8) (I : List D) : Prop where
  len : s.length ≤ 65536
  scan : Sp.scan s = (I ++ [tokD 0 [] (s.length : Int)], 0, 0)
  cov : Cov s 0 (I ++ [tokD 0 [] (s.length : Int)])
  toks : Toks (Sp.ext (I ++ [tokD 0 [] (s.length : Int)])) I.length (s.length : Int)

theorem text_or (s : List UInt8) : (∃ I, Text s I) ∨ (Sp.scE s ≠ 0 ∧ ∃ p : Nat, Sp.scA s = (p : Int) ∧ p ≤ s.length) := by
  rcases scan_says s with ⟨h1, _, l, h3, h4⟩ | ⟨h1, _, p, h3, h4⟩
  · obtain ⟨I, rfl⟩ := cov_last h4
    have hl := scan_len s
    rw [h3] at hl
    replace hl : (I ++ [tokD 0 [] (s.length : Int)]).length ≤ s.length + 1 := hl
    exact .inl ⟨I, h1, h3, h4, toks_of h1 h4 (by omega)⟩
  · exact .inr ⟨h1, p, h3, h4⟩

/-- What a text is. -/
theorem term_of {s : List UInt8} {I : List D} (h : Text s I) {k : Nat} (hk : 600000 ≤ k) :
    (∃ t n, Sp.termOf k s = some (.ok t) ∧ Sp.term k (Sp.ext (I ++ [tokD 0 [] (s.length : Int)])) 0 1 = some (.ok t I.length) ∧ 0 < I.length ∧ ∃ x, 0 ≤ x ∧ Wn (Sp.ext (I ++ [tokD 0 [] (s.length : Int)])) n x t) ∨
    (∃ a e, Sp.termOf k s = some (.bad a e) ∧ 0 ≤ a ∧ a ≤ s.length ∧ (e = 61 ∨ e = 62)) := by
  have hE : Sp.scE s = 0 := by unfold Sp.scE; rw [h.scan]
  have hL : Sp.scL s = I ++ [tokD 0 [] (s.length : Int)] := by unfold Sp.scL; rw [h.scan]
  have hT := h.toks
  have hsm := hT.small
  obtain ⟨out, ho, hg⟩ := (UU_all hT k).term 0 1 (Int.le_refl _) (by omega) (by have := hT.small; have := h.len; have hl := scan_len s; rw [h.scan] at hl; simp at hl; omega)
  unfold Sp.termOf
  rw [hE, decide_eq_true rfl, cond_true, hL]
  change Sp.term k _ 0 1 = some out at ho
  rw [ho, optK_now]
  cases out with
  | ok t j =>
    obtain ⟨x, h1, h2, h3, n, hW⟩ := hg
    obtain ⟨q, hq⟩ := hT.at_ j (by omega) (by omega)
    show (∃ t_1 n, optK (Sp.tok _ j) _ = _ ∧ _) ∨ (∃ a e, optK (Sp.tok _ j) _ = _ ∧ _)
    rw [hq, optK_now]
    by_cases hz : q.1 = 0
    · have hj : j = I.length := by
        by_cases hlt : j < I.length
        · have := hT.kind j q hq hlt; omega
        · omega
      subst hj
      refine .inl ⟨t, n, ?_, rfl, by omega, x, h1, hW⟩
      rw [decide_eq_true hz]; rfl
    · have := hT.low j q hq
      refine .inr ⟨q.2.2, 61, ?_, this.1, this.2, .inl rfl⟩
      rw [decide_eq_false hz]; rfl
  | bad a e j =>
    obtain ⟨⟨x, p, hp, rfl⟩, he⟩ := hg
    have := hT.low x p hp
    exact .inr ⟨p.2.2, e, rfl, this.1, this.2, he⟩

/- Places. -/
end Go.Vai
end

section
namespace Go.Vai
open Go.Proofs

def Sp.great (l : List T) : Bool := decide ((1500 : Int) < Sp.blk (.mk 0 [] l [] 0) 1500)
noncomputable def Sp.tsC (x : D) : Option (List T) := Sp.ts Sp.toC x
theorem oks_of : ∀ {l : List T}, (∀ t ∈ l, t.ok = true) → T.oks l = true
  | [], _ => rfl
  | t :: l, h => by
    simp only [T.oks, h t (List.mem_cons_self ..), oks_of fun u hu => h u (List.mem_cons_of_mem _ hu)]; rfl
theorem tsC_some {x : D} {l : List T} (h : Sp.tsC x = some l) : x = .sl 5 (T.ds l) ∧ shrt l = true ∧ T.oks l = true := by
  obtain ⟨L, rfl, h1, h2⟩ := ts_some h
  obtain ⟨rfl, h3⟩ := toL_ds (f := Sp.toC) (fun x t h => (toC_some h).1) h1
  exact ⟨rfl, h2, oks_of fun t ht => (toC_some (h3 t ht)).2⟩
theorem limWorks : evLim cx 17 [] [] = some (.ret (mkB true), []) := lim_of (n := 60) (by kernel_rfl)
end Go.Vai
end

section
namespace Go.Vai
open Go.Proofs Go.Proofs.YtdgdfglbhndjnaaDoor

theorem bulks_len : ∀ l : List T, l.length ≤ Sp.bulks l
  | [] => Nat.le_refl _
  | .mk k nm kids nms pl :: l => by
    have := bulks_len l
    simp only [List.length_cons, Sp.bulks, Sp.bulk]; omega
theorem lens_len : ∀ l : List (List UInt8), l.length ≤ Sp.lens l
  | [] => Nat.le_refl _
  | x :: l => by have := lens_len l; simp only [List.length_cons, Sp.lens]; omega
theorem lens_all : ∀ l : List (List UInt8), Sp.lens l < 4294967296 → l.all shrt = true
  | [], _ => rfl
  | x :: l, h => by
    simp only [Sp.lens] at h
    rw [List.all_cons, lens_all l (by omega), Bool.and_true]
    exact decide_eq_true (by omega)
mutual
theorem ok_bulk : ∀ t : T, Sp.bulk t < 4294967296 → t.ok = true
  | .mk k nm kids nms pl, h => by
    simp only [Sp.bulk] at h
    have h1 := bulks_len kids
    have h2 := lens_len nms
    simp only [T.ok, oks_bulk kids (by omega), lens_all nms (by omega), Bool.and_true, Bool.and_eq_true]
    exact ⟨⟨decide_eq_true (by omega), decide_eq_true (by omega)⟩, decide_eq_true (by omega)⟩
theorem oks_bulk : ∀ l : List T, Sp.bulks l < 4294967296 → T.oks l = true
  | [], _ => rfl
  | t :: l, h => by
    simp only [Sp.bulks] at h
    simp only [T.oks, ok_bulk t (by omega), oks_bulk l (by omega)]; rfl
end

theorem agg_cells (t : T) : D.agg t.d.cells = t.d := by cases t; rfl

section
variable {H : Type} {enc : TypeId × Value → H} {W : World} {base : Nat} {spare : Nat → Bool} {held : Bool}

theorem els_trees {m : Nat} : ∀ (es : List (DataW H × List MemPlace)), (∀ y ∈ es, ∃ t : T, plainD Tryd.prog m 26 y.1 = some t.d.cells ∧ Sp.bulk t ≤ Rows.uptoBulk y.1) →
    ∃ l : List T, plainEls true (plainD Tryd.prog m 26) (es.map (·.1)) = some (T.ds l) ∧ Sp.bulks l ≤ Rows.uptoBulkAll (es.map (·.1))
  | [], _ => ⟨[], rfl, Nat.le_refl _⟩
  | y :: es, h => by
    obtain ⟨t, h1, h2⟩ := h y (List.mem_cons_self ..)
    obtain ⟨l, h3, h4⟩ := els_trees es fun z hz => h z (List.mem_cons_of_mem _ hz)
    refine ⟨t :: l, ?_, ?_⟩
    · simp only [List.map_cons, plainEls, h1, h3, T.ds, elemOf, cond_true, agg_cells]
    · simp only [List.map_cons, Sp.bulks, Rows.uptoBulkAll]; omega

theorem els_strs {m : Nat} : ∀ (es : List (DataW H × List MemPlace)), (∀ y ∈ es, ∃ s : List UInt8, y.1 = .lit (.string s)) →
    ∃ l : List (List UInt8), plainEls false (plainD Tryd.prog (m + 1) 9) (es.map (·.1)) = some (l.map .str) ∧ Sp.lens l ≤ Rows.uptoBulkAll (es.map (·.1))
  | [], _ => ⟨[], rfl, Nat.le_refl _⟩
  | y :: es, h => by
    obtain ⟨s, h1⟩ := h y (List.mem_cons_self ..)
    obtain ⟨l, h3, h4⟩ := els_strs (m := m) es fun z hz => h z (List.mem_cons_of_mem _ hz)
    refine ⟨s :: l, ?_, ?_⟩
    · have e : plainD Tryd.prog (m + 1) 9 y.1 = some [.str s] := by rw [h1]; simp only [plainD, Tryd.underlying9]
      simp only [List.map_cons, plainEls, e, h3]
      rfl
    · simp only [List.map_cons, Sp.lens, Rows.uptoBulkAll, h1, Rows.uptoBulk]; omega

theorem plainD_slice {P : Program} {n t e : Nat} {els sp : List (DataW H)} (h : P.underlying t = some (.slice e)) :
    plainD P (n + 1) t (.slice els sp) = bif Nat.beq (P.cellsOf e) 0 then none else (plainEls (aggTy P e) (plainD P n e) els).map fun l => [.sl (P.cellsOf e) l] := by
  simp only [plainD, h]
theorem plainD_struct {P : Program} {n t : Nat} {fs : Array Field} {ps : List (DataW H)} (h : P.underlying t = some (.struct fs)) :
    plainD P (n + 1) t (.agg ps) = bif offsOk P 0 fs.toList (P.cellsOf t) then plainFields (plainD P n) fs.toList ps else none := by
  simp only [plainD, h]
theorem agg26 : aggTy Tryd.prog 26 = true := by kernel_rfl
theorem agg9 : aggTy Tryd.prog 9 = false := by kernel_rfl
theorem cells26 : Tryd.prog.cellsOf 26 = 5 := by kernel_rfl
theorem cells9 : Tryd.prog.cellsOf 9 = 1 := by kernel_rfl

theorem bind_some' {α β : Type} {o : Option α} {f : α → Option β} {y : β} (h : o.bind f = some y) : ∃ a, f a = some y := by
  cases o with
  | none => cases h
  | some a => exact ⟨a, h⟩

theorem trod_trees {n : Nat} {cs : List Value} {x : DataW H × List MemPlace} (ih : ∀ m, m < n → ∀ cs x, DataW.trod enc Tryd.prog W base spare held m 26 cs = some x → ∃ t : T, plainD Tryd.prog m 26 x.1 = some t.d.cells ∧ Sp.bulk t ≤ Rows.uptoBulk x.1)
    (h : DataW.trod enc Tryd.prog W base spare held n 23 cs = some x) : ∃ l : List T, plainD Tryd.prog n 23 x.1 = some [.sl 5 (T.ds l)] ∧ Sp.bulks l + 1 ≤ Rows.uptoBulk x.1 := by
  have hn : ∃ k, n = k + 1 := by
    cases n with
    | zero => simp [DataW.trod] at h
    | succ k => exact ⟨k, rfl⟩
  obtain ⟨k, rfl⟩ := hn
  rcases DataW.trod_slice Tryd.underlying23 h with ⟨_, rfl⟩ | ⟨a, len, cap, elems, rest, m, hm, _, rfl, _, _, _, hl, he, _⟩
  · refine ⟨[], ?_, Nat.le_refl _⟩
    simp only [plainD, Tryd.underlying23, cells26]
    rfl
  · cases hm
    obtain ⟨l, h1, h2⟩ := els_trees (m := k) elems fun y hy => by
      obtain ⟨i, hi⟩ := List.getElem?_of_mem hy
      have := he i (by have := (List.getElem?_eq_some_iff.1 hi).1; omega)
      rw [hi] at this
      obtain ⟨c, hc⟩ := bind_some' this
      exact ih k (Nat.lt_succ_self _) c y hc
    refine ⟨l, ?_, ?_⟩
    · have e : Nat.beq (Tryd.prog.cellsOf 26) 0 = false := by rw [cells26]; rfl
      rw [plainD_slice Tryd.underlying23, e, cond_false, agg26, h1, cells26]
      rfl
    · simp only [Rows.uptoBulk]; omega

theorem trod_strs {n : Nat} {cs : List Value} {x : DataW H × List MemPlace} (h : DataW.trod enc Tryd.prog W base spare held n 24 cs = some x) : ∃ l : List (List UInt8), plainD Tryd.prog n 24 x.1 = some [.sl 1 (l.map .str)] ∧ Sp.lens l + 1 ≤ Rows.uptoBulk x.1 := by
  have hn : ∃ k, n = k + 1 := by
    cases n with
    | zero => simp [DataW.trod] at h
    | succ k => exact ⟨k, rfl⟩
  obtain ⟨k, rfl⟩ := hn
  rcases DataW.trod_slice Tryd.underlying24 h with ⟨_, rfl⟩ | ⟨a, len, cap, elems, rest, m, hm, _, rfl, _, _, _, hl, he, _⟩
  · refine ⟨[], ?_, Nat.le_refl _⟩
    simp only [plainD, Tryd.underlying24, cells9]
    rfl
  · cases hm
    have hel : ∀ y ∈ elems, ∃ c, DataW.trod enc Tryd.prog W base spare held k 9 c = some y := fun y hy => by
      obtain ⟨i, hi⟩ := List.getElem?_of_mem hy
      have := he i (by have := (List.getElem?_eq_some_iff.1 hi).1; omega)
      rw [hi] at this
      exact bind_some' this
    have e : Nat.beq (Tryd.prog.cellsOf 9) 0 = false := by rw [cells9]; rfl
    cases k with
    | zero =>
      have : elems = [] := by
        cases elems with
        | nil => rfl
        | cons y es => obtain ⟨c, hc⟩ := hel y (List.mem_cons_self ..); simp [DataW.trod] at hc
      subst this
      refine ⟨[], ?_, ?_⟩
      · rw [plainD_slice Tryd.underlying24, e, cond_false, cells9]
        rfl
      · simp only [Rows.uptoBulk, Sp.lens]; omega
    | succ k =>
      obtain ⟨l, h1, h2⟩ := els_strs (m := k) elems fun y hy => by
        obtain ⟨c, hc⟩ := hel y hy
        obtain ⟨s, _, rfl, _⟩ := DataW.trod_string Tryd.underlying9 hc
        exact ⟨_, rfl⟩
      refine ⟨l, ?_, ?_⟩
      · rw [plainD_slice Tryd.underlying24, e, cond_false, agg9, h1, cells9]
        rfl
      · simp only [Rows.uptoBulk]; omega

theorem trod_tree : ∀ (n : Nat) (cs : List Value) (x : DataW H × List MemPlace), DataW.trod enc Tryd.prog W base spare held n 26 cs = some x → ∃ t : T, plainD Tryd.prog n 26 x.1 = some t.d.cells ∧ Sp.bulk t ≤ Rows.uptoBulk x.1 := by
  intro n
  induction n using Nat.strongRecOn with
  | ind n ih =>
    intro cs x h
    obtain ⟨xs, m, rfl, rfl, hlen, hxs, hf⟩ := DataW.trod_struct Tryd.underlying26 h
    obtain ⟨x0, x1, x2, x3, x4, rfl⟩ : ∃ x0 x1 x2 x3 x4, xs = [x0, x1, x2, x3, x4] := by
      match xs, hxs with
      | [a, b, c, d, e], _ => exact ⟨a, b, c, d, e, rfl⟩
    have f0 := hf 0 _ rfl
    have f1 := hf 1 _ rfl
    have f2 := hf 2 _ rfl
    have f3 := hf 3 _ rfl
    have f4 := hf 4 _ rfl
    simp only [List.getElem?_cons_zero, List.getElem?_cons_succ] at f0 f1 f2 f3 f4
    obtain ⟨k, _, rfl, _⟩ := DataW.trod_int Tryd.underlying3 f0
    obtain ⟨s, _, rfl, _⟩ := DataW.trod_string Tryd.underlying9 f1
    obtain ⟨l, hl1, hl2⟩ := trod_trees (fun m' hm' => ih m' (Nat.lt_succ_of_lt hm')) f2
    obtain ⟨ns, hn1, hn2⟩ := trod_strs f3
    obtain ⟨p, _, rfl, _⟩ := DataW.trod_int Tryd.underlying3 f4
    have hm : ∃ q, m = q + 1 := by
      cases m with
      | zero => simp [DataW.trod] at f0
      | succ k => exact ⟨k, rfl⟩
    obtain ⟨q, rfl⟩ := hm
    refine ⟨.mk k s.data.toList l ns p, ?_, ?_⟩
    · rw [plainD_struct Tryd.underlying26]
      have e1 : ∀ z : Int, plainD Tryd.prog (q + 1) 3 (DataW.lit (H := H) (.int .i64 z)) = some [.int .i64 z] := fun z => by simp only [plainD, Tryd.underlying3]
      have e2 : ∀ z : List UInt8, plainD Tryd.prog (q + 1) 9 (DataW.lit (H := H) (.string z)) = some [.str z] := fun z => by simp only [plainD, Tryd.underlying9]
      have e0 : ∀ fs, offsOk Tryd.prog 0 fs (Tryd.prog.cellsOf 26) = true → (bif offsOk Tryd.prog 0 fs (Tryd.prog.cellsOf 26) then plainFields (plainD (H := H) Tryd.prog (q + 1)) fs [.lit (.int .i64 k), .lit (.string s.data.toList), x2.1, x3.1, .lit (.int .i64 p)] else none) = plainFields (plainD Tryd.prog (q + 1)) fs [.lit (.int .i64 k), .lit (.string s.data.toList), x2.1, x3.1, .lit (.int .i64 p)] := fun fs h => by rw [h]; rfl
      refine (e0 _ (by kernel_rfl)).trans ?_
      simp only [plainFields, e1, e2, hl1, hn1]
      rfl
    · simp only [List.map_cons, List.map_nil, Rows.uptoBulk, Rows.uptoBulkAll, Sp.bulk]
      omega
end
theorem same_kept {W W' : World} (h : Kept W noOwn W') {p : MemPlace} (hp : p.block < W.heap.size) : W.sameAt W' p := by
  cases p with
  | cell b o => exact World.cell?_of_block (w := W) (h.blk b hp fun _ h => h)
  | map b => exact h.blk b hp fun _ h => h
theorem rd_agg {W : World} {cs : Array Value} {t : T} (h : RDs W noOwn cs.toList t.d.cells) (ho : ∀ c ∈ cs.toList, c.oneCell' = true) : RDs W noOwn [.agg cs] [t.d] := by
  have h1 := RD.agg (w := W) (own := noOwn) cs t.d.cells (by simpa using h.1) ho (fun i x y hx hy => h.2 i x y (by simpa using hx) hy)
  rw [agg_cells] at h1
  exact RDs.one h1
end Go.Vai
end

section
namespace Go.Vai
open Go.Proofs

/-- Nothing is let by here. -/
def solid (x : List UInt8) : Prop := ∀ j, Sp.pastGo false x j = j
inductive Lex : List UInt8 → List (Int × List UInt8) → Prop
  | nil : Lex [] []
  | blank {r l} : Lex r l → Lex (32 :: r) l
  | line {r l} : Lex r l → Lex (10 :: r) l
  | tok {k t r l} : Sp.one (t ++ r) = (k, t) → t ≠ [] → solid (t ++ r) → Lex r l → Lex (t ++ r) ((k, t) :: l)
inductive Er : List D → List (Int × List UInt8) → Prop
  | nil : Er [] []
  | tok {k t a I l} : Er I l → Er (tokD k t a :: I) ((k, t) :: l)

theorem cov_past' {X : List UInt8} {e e' : Nat} {l : List D} (h : Cov X e' l) (hp : Sp.past X e = Sp.past X e') (he : e ≤ X.length) : Cov X e l := by
  cases h with
  | fin h1 h2 => exact .fin he (hp.trans h2)
  | tok h1 h2 h3 h4 h5 h6 => exact .tok he (hp.trans h2) h3 h4 h5 h6

theorem lex_cov {x : List UInt8} {l : List (Int × List UInt8)} (h : Lex x l) : ∀ p : List UInt8, ∃ I : List D, Cov (p ++ x) p.length (I ++ [tokD 0 [] ((p ++ x).length : Int)]) ∧ Er I l := by
  induction h with
  | nil =>
    intro p
    refine ⟨[], .fin (by simp) ?_, .nil⟩
    unfold Sp.past
    simp [Sp.pastGo]
  | @blank r l h ih =>
    intro p
    obtain ⟨I, h1, h2⟩ := ih (p ++ [32])
    have e : p ++ [32] ++ r = p ++ 32 :: r := by simp
    have el : (p ++ [32]).length = p.length + 1 := by simp
    rw [e, el] at h1
    refine ⟨I, cov_past' h1 ?_ (by simp), h2⟩
    unfold Sp.past
    have d1 : (p ++ 32 :: r).drop p.length = 32 :: r := by simp
    have d2 : (p ++ 32 :: r).drop (p.length + 1) = r := by rw [← e, ← el]; simp
    rw [d1, d2]
    rfl
  | @line r l h ih =>
    intro p
    obtain ⟨I, h1, h2⟩ := ih (p ++ [10])
    have e : p ++ [10] ++ r = p ++ 10 :: r := by simp
    have el : (p ++ [10]).length = p.length + 1 := by simp
    rw [e, el] at h1
    refine ⟨I, cov_past' h1 ?_ (by simp), h2⟩
    unfold Sp.past
    have d1 : (p ++ 10 :: r).drop p.length = 10 :: r := by simp
    have d2 : (p ++ 10 :: r).drop (p.length + 1) = r := by rw [← e, ← el]; simp
    rw [d1, d2]
    rfl
  | @tok k t r l ho hne hs h ih =>
    intro p
    obtain ⟨I, h1, h2⟩ := ih (p ++ t)
    have e : p ++ t ++ r = p ++ (t ++ r) := by simp
    have el : (p ++ t).length = p.length + t.length := by simp
    rw [e, el] at h1
    have d1 : (p ++ (t ++ r)).drop p.length = t ++ r := by simp
    have hpos : 0 < t.length := List.length_pos_iff.2 hne
    refine ⟨tokD k t (p.length : Int) :: I, .tok (by simp) ?_ (by simp; omega) (by rw [d1]; exact ho) hne h1, .tok h2⟩
    unfold Sp.past
    rw [d1]
    exact hs _

theorem lex_low {x : List UInt8} {l : List (Int × List UInt8)} (h : Lex x l) : ∀ c ∈ x, c.toNat < 128 := by
  induction h with
  | nil => intro c h; cases h
  | blank _ ih =>
    intro c h
    cases h with
    | head => decide
    | tail _ h => exact ih c h
  | line _ ih =>
    intro c h
    cases h with
    | head => decide
    | tail _ h => exact ih c h
  | tok ho hne _ _ ih =>
    intro c h
    rcases List.mem_append.1 h with h | h
    · exact tk_low (tk_of_one ho hne) c h
    · exact ih c h

/-- The tokens of a text. -/
theorem lex_scan {x : List UInt8} {l : List (Int × List UInt8)} (h : Lex x l) (hx : x.length ≤ 65536) : ∃ I, Sp.scan x = (I ++ [tokD 0 [] (x.length : Int)], 0, 0) ∧ Er I l := by
  obtain ⟨I, h1, h2⟩ := lex_cov h []
  refine ⟨I, ?_, h2⟩
  unfold Sp.scan
  rw [decide_eq_false (by omega), cond_false, utf_low _ _ _ (Nat.le_refl _) (lex_low h)]
  have hb := past_bounds (s := x) (j := 0) (Nat.zero_le _)
  have := cov_toks h1 (x.length + 1) [] (by simp; omega)
  simpa using this

/-- Texts whose tokens don't hang on what follows; and those behind which no name may go on. -/
def LQ (s : List UInt8) (ks : List (Int × List UInt8)) : Prop := ∀ r l, Lex r l → Lex (s ++ r) (ks ++ l)
def fol (r : List UInt8) : Prop := ∀ c ∈ r.head?, (Sp.letter (c.toNat : Int) || Sp.digit (c.toNat : Int)) = false
def LP1 (s : List UInt8) (ks : List (Int × List UInt8)) : Prop := ∀ r l, fol r → Lex r l → Lex (s ++ r) (ks ++ l)

theorem LQ.nil : LQ [] [] := fun _ _ h => h
theorem LQ.cat {s u ks js} (h : LQ s ks) (h' : LQ u js) : LQ (s ++ u) (ks ++ js) := fun r l hr => by
  rw [List.append_assoc, List.append_assoc]
  exact h _ _ (h' r l hr)
theorem LQ.p {s ks} (h : LQ s ks) : LP1 s ks := fun r l _ hr => h r l hr
theorem LQ.catP {s u ks js} (h : LQ s ks) (h' : LP1 u js) : LP1 (s ++ u) (ks ++ js) := fun r l hf hr => by
  rw [List.append_assoc, List.append_assoc]
  exact h _ _ (h' r l hf hr)
theorem LP1.cat {s c u ks js} (h : LP1 s ks) (hc : (Sp.letter (UInt8.toNat c : Int) || Sp.digit (c.toNat : Int)) = false) (h' : LQ (c :: u) js) : LQ (s ++ c :: u) (ks ++ js) := fun r l hr => by
  rw [List.append_assoc, List.append_assoc]
  exact h _ _ (fun d hd => by cases hd; exact hc) (h' r l hr)
theorem LP1.catP {s c u ks js} (h : LP1 s ks) (hc : (Sp.letter (UInt8.toNat c : Int) || Sp.digit (c.toNat : Int)) = false) (h' : LP1 (c :: u) js) : LP1 (s ++ c :: u) (ks ++ js) := fun r l hf hr => by
  rw [List.append_assoc, List.append_assoc]
  exact h _ _ (fun d hd => by cases hd; exact hc) (h' r l hf hr)

theorem lq_blank : LQ [32] [] := fun _ _ h => .blank h
theorem lq_sign (c : UInt8) (h : ∀ r, Sp.one (c :: r) = (2, [c])) (hs : ∀ r, solid (c :: r)) : LQ [c] [(2, [c])] := fun r _ hr => .tok (h r) (by simp) (hs r) hr
theorem lq_arr : LQ [45, 62] [(2, [45, 62])] := fun r l hr => Lex.tok (k := 2) (t := [45, 62]) (r := r) rfl (by simp) (fun j => by rfl) hr
theorem lq_and : LQ [47, 92] [(2, [47, 92])] := fun r l hr => Lex.tok (k := 2) (t := [47, 92]) (r := r) rfl (by simp) (fun j => by rfl) hr
theorem lq_or : LQ [92, 47] [(2, [92, 47])] := fun r l hr => Lex.tok (k := 2) (t := [92, 47]) (r := r) rfl (by simp) (fun j => by rfl) hr
theorem lq40 : LQ [40] [(2, [40])] := lq_sign 40 (fun _ => rfl) fun _ _ => rfl
theorem lq41 : LQ [41] [(2, [41])] := lq_sign 41 (fun _ => rfl) fun _ _ => rfl
theorem lq91 : LQ [91] [(2, [91])] := lq_sign 91 (fun _ => rfl) fun _ _ => rfl
theorem lq93 : LQ [93] [(2, [93])] := lq_sign 93 (fun _ => rfl) fun _ _ => rfl
theorem lq44 : LQ [44] [(2, [44])] := lq_sign 44 (fun _ => rfl) fun _ _ => rfl
theorem lq46 : LQ [46] [(2, [46])] := lq_sign 46 (fun _ => rfl) fun _ _ => rfl
theorem lq58 : LQ [58] [(2, [58])] := lq_sign 58 (fun _ => rfl) fun _ _ => rfl
theorem lq61 : LQ [61] [(2, [61])] := lq_sign 61 (fun _ => rfl) fun _ _ => rfl
theorem lq60 : LQ [60] [(2, [60])] := lq_sign 60 (fun _ => rfl) fun _ _ => rfl
theorem lq62 : LQ [62] [(2, [62])] := lq_sign 62 (fun _ => rfl) fun _ _ => rfl
theorem lq64 : LQ [64] [(2, [64])] := lq_sign 64 (fun _ => rfl) fun _ _ => rfl
theorem lq126 : LQ [126] [(2, [126])] := lq_sign 126 (fun _ => rfl) fun _ _ => rfl
theorem lq42 : LQ [42] [(2, [42])] := lq_sign 42 (fun _ => rfl) fun _ _ => rfl
theorem lq48 : LQ [48] [(2, [48])] := lq_sign 48 (fun _ => rfl) fun _ _ => rfl
theorem lq49 : LQ [49] [(2, [49])] := lq_sign 49 (fun _ => rfl) fun _ _ => rfl

theorem nameGo_fol : ∀ (t r : List UInt8) (j : Nat), 0 < j → (∀ c ∈ t, (Sp.letter (c.toNat : Int) || Sp.digit (c.toNat : Int)) = true) → fol r → Sp.nameGo (t ++ r) j = j + t.length
  | [], r, j, hj, _, hr => by
    cases r with
    | nil => rfl
    | cons c r =>
      have := hr c rfl
      rw [List.nil_append, Sp.nameGo, decide_eq_true hj, Bool.true_and, this]
      rfl
  | b :: t, r, j, hj, ht, hr => by
    have hb := ht b List.mem_cons_self
    have ih := nameGo_fol t r (j + 1) (by omega) (fun c hc => ht c (List.mem_cons_of_mem _ hc)) hr
    rw [List.cons_append, Sp.nameGo, decide_eq_true hj, Bool.true_and, hb, cond_true, ih, List.length_cons]; omega

theorem letter_solid {b : UInt8} (h : Sp.letter (b.toNat : Int) = true) (r : List UInt8) : solid (b :: r) := by
  intro j
  have hl : (97 ≤ (b.toNat : Int) ∧ (b.toNat : Int) ≤ 122) ∨ (65 ≤ (b.toNat : Int) ∧ (b.toNat : Int) ≤ 90) ∨ (b.toNat : Int) = 95 := by
    simp only [Sp.letter, Bool.or_eq_true, Bool.and_eq_true, decide_eq_true_eq] at h
    omega
  have h1 : Sp.blank (b.toNat : Int) = false := by
    unfold Sp.blank
    rw [decide_eq_false (by omega), decide_eq_false (by omega), decide_eq_false (by omega), decide_eq_false (by omega)]; rfl
  rw [Sp.pastGo, h1, cond_false, decide_eq_false (by omega), Bool.false_and, cond_false]

/-- A name. -/
def isNm (s : List UInt8) : Prop := ∃ b t, s = b :: t ∧ Sp.letter (b.toNat : Int) = true ∧ ∀ c ∈ t, (Sp.letter (c.toNat : Int) || Sp.digit (c.toNat : Int)) = true
theorem lp_name {s : List UInt8} (h : isNm s) : LP1 s [(1, s)] := by
  intro r l hf hr
  obtain ⟨b, t, rfl, hb, ht⟩ := h
  have hn : Sp.nameLen ((b :: t) ++ r) = t.length + 1 := by
    unfold Sp.nameLen
    rw [List.cons_append, Sp.nameGo, hb, Bool.true_or, cond_true, nameGo_fol t r (0 + 1) (by omega) ht hf]; omega
  refine Lex.tok (k := 1) (t := b :: t) ?_ (by simp) (letter_solid hb _) hr
  unfold Sp.one
  rw [hn, decide_eq_true (by omega), cond_true]
  have : ((b :: t) ++ r).take (t.length + 1) = b :: t := by
    rw [show t.length + 1 = (b :: t).length from rfl, List.take_left']
    rfl
  rw [this]
theorem named_nm {s : List UInt8} (h : Sp.named s = true) : isNm s := by
  unfold Sp.named at h
  rw [Bool.and_eq_true] at h
  obtain ⟨h1, h2⟩ := h
  have h1 := of_decide_eq_true h1
  rcases scan_says s with ⟨hs, _, l, hl, hc⟩ | ⟨h3, _⟩
  · have e : Sp.scL s = l := by unfold Sp.scL; rw [hl]
    rw [e] at h2
    cases hc with
    | fin _ _ => cases h2
    | tok _ _ _ ho hne hr =>
      cases hr with
      | fin _ _ =>
        have h2 : (decide (_ = (1 : Int)) && decide (_ = s)) = true := h2
        rw [Bool.and_eq_true] at h2
        have hk := of_decide_eq_true h2.1
        have ht := of_decide_eq_true h2.2
        rcases tk_of_one ho hne with ⟨_, b, r, e, hb, hr⟩ | ⟨hk2, _⟩
        · rw [ht] at e
          exact ⟨b, r, e, hb, hr⟩
        · rw [hk] at hk2; cases hk2
      | tok _ _ _ _ _ hr2 =>
        cases hr2 <;> cases h2
  · exact absurd h1 h3
end Go.Vai
end

section
namespace Go.Vai
open Go.Proofs

abbrev Kt := Int × List UInt8
def sg (c : UInt8) : Kt := (2, [c])
def nmK (s : List UInt8) : Kt := (1, s)
def kBrk (b : Bool) (l : List Kt) : List Kt := bif b then [sg 40] ++ l ++ [sg 41] else l
def kAt (l : List (List Kt)) (i : Nat) : List Kt := l.getD i []
def kNames : List (List UInt8) → List Kt := List.map nmK
mutual
def kFmb : T → List Kt
  | .mk k nm kids _ _ => bif decide (k = 16) then [sg 126] ++ kAt (kFms kids 2) 0 else bif decide (k = 15) then kAt (kFms kids 1) 0 ++ [(2, [47, 92])] ++ kAt (kFms kids 2) 1
      else bif decide (k = 14) then kAt (kFms kids 0) 0 ++ [(2, [92, 47])] ++ kAt (kFms kids 1) 1 else bif decide (k = 17) then [(2, nm)] else [nmK nm]
def kFms : List T → Int → List (List Kt)
  | [], _ => []
  | t :: l, a => kBrk (decide (Sp.rnk t.k < a)) (kFmb t) :: kFms l a
end
def kFm (t : T) (a : Int) : List Kt := kBrk (decide (Sp.rnk t.k < a)) (kFmb t)
def kEq (t : T) : List Kt := [sg 40] ++ [nmK t.nm] ++ [sg 61] ++ [(2, Sp.at t.nms 0)] ++ [sg 41]
def kFace (t : T) : List Kt := (bif t.kids.isEmpty then [sg 49] else []) ++ (t.kids.map kEq).flatten
mutual
def kBare : T → List Kt
  | .mk k nm kids nms _ => bif decide (k = 1) then [nmK nm]
    else bif decide (k = 2) then [sg 92] ++ kNames nms ++ [sg 46] ++ kAt (kTexts kids 0) 0
    else bif decide (k = 3) then [sg 60] ++ kNames nms ++ [sg 62] ++ kAt (kTexts kids 0) 0
    else bif decide (k = 4) then (bif decide (nms.length = 1) then [sg 40] ++ [nmK (Sp.at nms 0)] ++ [sg 58] ++ kAt (kTexts kids 0) 0 ++ [sg 41] else kBrk (Sp.annN kids) (kAt (kTexts kids 1) 0)) ++ [(2, [45, 62])] ++ kAt (kTexts kids 0) 1
    else bif decide (k = 5) then (bif decide (nms.length = 1) then [sg 40] ++ [nmK (Sp.at nms 0)] ++ [sg 58] ++ kAt (kTexts kids 0) 0 ++ [sg 41] else kBrk (Sp.annN kids) (kAt (kTexts kids 1) 0)) ++ [sg 42] ++ kAt (kTexts kids 0) 1
    else bif decide (k = 6) then kAt (kTexts kids 1) 0 ++ [] ++ kAt (kTexts kids 2) 1
    else bif decide (k = 7) then kAt (kTexts kids 1) 0 ++ [sg 64] ++ (match kids with | _ :: b :: _ => kFm b 2 | _ => [])
    else bif decide (k = 8) then [sg 40] ++ kAt (kTexts kids 0) 0 ++ [sg 44] ++ kAt (kTexts kids 0) 1 ++ [sg 41]
    else bif decide (k = 9) then [sg 40] ++ kAt (kTexts kids 0) 0 ++ [sg 58] ++ kAt (kTexts kids 0) 1 ++ [sg 41]
    else [sg 91] ++ kBox true kids ++ [sg 93]
def kTexts : List T → Int → List (List Kt)
  | [], _ => []
  | t :: l, a => kBrk (decide (Sp.cls t.k < a)) (kBare t) :: kTexts l a
def kEl : T → List Kt
  | .mk _ _ kids _ _ => (match kids with | f :: _ => kFace f | _ => []) ++ (bif decide (kids.length = 2) then [(2, [45, 62])] ++ kAt (kTexts kids 0) 1 else [])
def kBox : Bool → List T → List Kt
  | _, [] => []
  | b, e :: l => (bif b then [] else [sg 44]) ++ kEl e ++ kBox false l
end
def kText (t : T) (a : Int) : List Kt := kBrk (decide (Sp.cls t.k < a)) (kBare t)

theorem q_brk {b : Bool} {s ks} (h : LP1 s ks) : LP1 (Sp.brk b s) (kBrk b ks) := by
  cases b
  · exact h
  · exact ((lq40.catP h).cat (by decide) lq41).p
theorem l_text {t : T} (h : LP1 (Sp.bare t) (kBare t)) (a : Int) : LP1 (Sp.text t a) (kText t a) := q_brk h
theorem l_bit {s : List UInt8} (h : Sp.bit s = true) : LQ s [(2, s)] := by
  unfold Sp.bit at h
  rw [Bool.or_eq_true] at h
  rcases h with h | h
  · rw [of_decide_eq_true h]; exact lq48
  · rw [of_decide_eq_true h]; exact lq49

theorem l_fmb : ∀ t : T, Sp.form t = true → LP1 (Sp.fmb t) (kFmb t)
  | .mk k nm [] nms pl, h => by
    rw [Sp.form, Bool.and_eq_true, Bool.or_eq_true, Bool.and_eq_true, Bool.and_eq_true] at h
    obtain ⟨_, ⟨h1, h2⟩ | ⟨h1, h2⟩⟩ := h
    · have hk := of_decide_eq_true h1; subst hk; exact lp_name (named_nm h2)
    · have hk := of_decide_eq_true h1; subst hk; exact (l_bit h2).p
  | .mk k nm [a] nms pl, h => by
    simp only [Sp.form, Bool.and_eq_true] at h
    obtain ⟨⟨⟨h1, _⟩, _⟩, h2⟩ := h
    have hk := of_decide_eq_true h1; subst hk
    exact lq126.catP (q_brk (l_fmb a h2))
  | .mk k nm [a, b] nms pl, h => by
    simp only [Sp.form, Bool.and_eq_true, Bool.or_eq_true] at h
    obtain ⟨⟨⟨⟨h1, _⟩, _⟩, h2⟩, h3⟩ := h
    rcases h1 with h1 | h1
    · have hk := of_decide_eq_true h1; subst hk
      exact (((q_brk (l_fmb a h2)).cat (by decide) (lq_blank.cat (lq_or.cat lq_blank))).catP (q_brk (l_fmb b h3)))
    · have hk := of_decide_eq_true h1; subst hk
      exact (((q_brk (l_fmb a h2)).cat (by decide) (lq_blank.cat (lq_and.cat lq_blank))).catP (q_brk (l_fmb b h3)))
  | .mk k nm (a :: b :: c :: l) nms pl, h => by simp [Sp.form] at h
theorem l_fm {t : T} (h : Sp.form t = true) (a : Int) : LP1 (Sp.fm t a) (kFm t a) := q_brk (l_fmb t h)

theorem l_eq {t : T} (h : Sp.eqn t = true) : LQ (Sp.eqT t) (kEq t) := by
  obtain ⟨k, nm, kids, nms, pl⟩ := t
  rcases kids with _ | ⟨a, l⟩ <;> rcases nms with _ | ⟨x, _ | ⟨y, r⟩⟩ <;> simp [Sp.eqn] at h
  obtain ⟨⟨_, h1⟩, h2⟩ := h
  exact ((((lq40.catP (lp_name (named_nm h1))).cat (by decide) lq61).cat (l_bit h2)).cat lq41)
theorem l_eqs : ∀ l : List T, (∀ t ∈ l, Sp.eqn t = true) → LQ (l.map Sp.eqT).flatten (l.map kEq).flatten
  | [], _ => LQ.nil
  | t :: l, h => (l_eq (h t (List.mem_cons_self ..))).cat (l_eqs l fun u hu => h u (List.mem_cons_of_mem _ hu))
theorem l_face {t : T} (h : Sp.faceB t = true) : LQ (Sp.faceT t) (kFace t) := by
  obtain ⟨k, nm, kids, nms, pl⟩ := t
  simp only [Sp.faceB, Bool.and_eq_true] at h
  have h2 := l_eqs kids (List.all_eq_true.1 h.2)
  refine LQ.cat ?_ h2
  show LQ (bif kids.isEmpty then [49] else []) (bif kids.isEmpty then [sg 49] else [])
  cases kids.isEmpty
  · exact LQ.nil
  · exact lq49

theorem joinS_sole (a s : List UInt8) : Sp.joinS [a] s = a := by simp [Sp.joinS, Lib.join, List.intercalate]
theorem joinS_more (a b s : List UInt8) (l : List (List UInt8)) : Sp.joinS (a :: b :: l) s = a ++ (s ++ Sp.joinS (b :: l) s) := by simp [Sp.joinS, Lib.join, List.intercalate, List.intersperse]
theorem l_names : ∀ nms : List (List UInt8), nms ≠ [] → (∀ s ∈ nms, Sp.named s = true) → LP1 (Sp.joinS nms [32]) (kNames nms)
  | [], h, _ => absurd rfl h
  | [a], _, h => by
    rw [joinS_sole]
    exact lp_name (named_nm (h a (List.mem_cons_self ..)))
  | a :: b :: l, _, h => by
    have h2 := l_names (b :: l) (by simp) fun s hs => h s (List.mem_cons_of_mem _ hs)
    have h1 := lp_name (named_nm (h a (List.mem_cons_self ..)))
    rw [joinS_more]
    have h3 : LP1 (32 :: Sp.joinS (b :: l) [32]) (kNames (b :: l)) := lq_blank.catP h2
    exact h1.catP (by decide) h3
theorem join_letter {nms : List (List UInt8)} (h : nms ≠ []) (hn : ∀ s ∈ nms, Sp.named s = true) : ∃ b r, Sp.joinS nms [32] = b :: r ∧ Sp.letter (b.toNat : Int) = true := by
  rcases nms with _ | ⟨a, l⟩
  · exact absurd rfl h
  · obtain ⟨b, t, rfl, hb, _⟩ := named_nm (hn _ (List.mem_cons_self ..))
    cases l with
    | nil => exact ⟨b, t, joinS_sole _ _, hb⟩
    | cons x l => exact ⟨b, _, joinS_more _ _ _ _, hb⟩
theorem one_lam {b : UInt8} (h : Sp.letter (b.toNat : Int) = true) (r : List UInt8) : Sp.one (92 :: b :: r) = (2, [92]) := by
  have hb : b ≠ 47 := by rintro rfl; exact absurd h (by decide)
  unfold Sp.one
  have h1 : Sp.nameLen (92 :: b :: r) = 0 := rfl
  have h2 : Sp.hasPre (92 :: b :: r) [92, 47] = false := by
    unfold Sp.hasPre
    exact decide_eq_false (by simpa using hb)
  rw [h1]
  show Sp.signGo (92 :: b :: r) Sp.signs = _
  have e : Sp.signs = [45, 62] :: [47, 92] :: [92, 47] :: Sp.signs.drop 3 := rfl
  rw [e, Sp.signGo, Sp.signGo, Sp.signGo, h2]
  rfl
theorem l_lam {nms : List (List UInt8)} (h : nms ≠ []) (hn : ∀ s ∈ nms, Sp.named s = true) : LP1 ([92] ++ Sp.joinS nms [32]) ([sg 92] ++ kNames nms) := by
  intro r l hf hr
  have h2 := l_names nms h hn r l hf hr
  obtain ⟨b, t, e, hb⟩ := join_letter h hn
  rw [List.append_assoc, List.append_assoc]
  refine Lex.tok (k := 2) (t := [92]) ?_ (by simp) (fun _ => rfl) h2
  rw [e]
  exact one_lam hb _

mutual
theorem l_bare : ∀ t : T, Sp.right t = true → LP1 (Sp.bare t) (kBare t)
  | .mk k nm [] nms pl, h => by
    simp only [Sp.right, Bool.and_eq_true, Bool.or_eq_true] at h
    obtain ⟨_, ⟨h1, h2⟩ | ⟨h1, h2⟩⟩ := h
    · have hk := of_decide_eq_true h1; subst hk; exact lp_name (named_nm h2)
    · have hk := of_decide_eq_true h1; subst hk; exact (lq91.cat lq93).p
  | .mk k nm [a] nms pl, h => by
    simp only [Sp.right, Bool.and_eq_true, Bool.or_eq_true] at h
    obtain ⟨_, ⟨⟨⟨h1, h2⟩, h3⟩, h4⟩ | ⟨⟨h1, _⟩, h2⟩⟩ := h
    · have hne : nms ≠ [] := by
        rintro rfl; exact absurd h2 (by decide)
      have hn := List.all_eq_true.1 h3
      rcases h1 with h1 | h1
      · have hk := of_decide_eq_true h1; subst hk
        exact (((l_lam hne hn).cat (by decide) (lq46.cat lq_blank)).catP (q_brk (l_bare a h4)))
      · have hk := of_decide_eq_true h1; subst hk
        exact (((lq60.catP (l_names nms hne hn)).cat (by decide) (lq62.cat lq_blank)).catP (q_brk (l_bare a h4)))
    · have hk := of_decide_eq_true h1; subst hk
      exact ((lq91.catP (l_box true [a] (by simp [Sp.elems, h2]))).cat (by decide) lq93).p
  | .mk k nm [a, b] nms pl, h => by
    simp only [Sp.right, Bool.and_eq_true, Bool.or_eq_true] at h
    obtain ⟨_, ((⟨⟨⟨⟨h1, h2⟩, h3⟩, h4⟩, h5⟩ | ⟨⟨⟨h1, h2⟩, h3⟩, h4⟩) | ⟨⟨⟨h1, h2⟩, h3⟩, h4⟩) | ⟨⟨⟨h1, h2⟩, h3⟩, h4⟩⟩ := h
    · have ha := l_bare a h4
      have hb := l_bare b h5
      have hn := List.all_eq_true.1 h3
      have h2 := of_decide_eq_true h2
      have dom : LP1 (bif decide (nms.length = 1) then [40] ++ Sp.at nms 0 ++ [32, 58, 32] ++ Sp.at (Sp.texts [a, b] 0) 0 ++ [41] else Sp.brk (Sp.annN [a, b]) (Sp.at (Sp.texts [a, b] 1) 0))
          (bif decide (nms.length = 1) then [sg 40] ++ [nmK (Sp.at nms 0)] ++ [sg 58] ++ kAt (kTexts [a, b] 0) 0 ++ [sg 41] else kBrk (Sp.annN [a, b]) (kAt (kTexts [a, b] 1) 0)) := by
        rcases nms with _ | ⟨x, _ | ⟨y, r⟩⟩
        · exact q_brk (q_brk ha)
        · exact ((((lq40.catP (lp_name (named_nm (hn x (List.mem_cons_self ..))))).cat (by decide) (lq_blank.cat (lq58.cat lq_blank))).catP (q_brk ha)).cat (by decide) lq41).p
        · exact absurd h2 (by simp only [List.length_cons]; omega)
      rcases h1 with h1 | h1
      · have hk := of_decide_eq_true h1; subst hk
        exact (dom.cat (by decide) (lq_blank.cat (lq_arr.cat lq_blank))).catP (q_brk hb)
      · have hk := of_decide_eq_true h1; subst hk
        exact (dom.cat (by decide) (lq_blank.cat (lq42.cat lq_blank))).catP (q_brk hb)
    · have ha := l_bare a h3
      have hb := l_bare b h4
      rcases h1 with (h1 | h1) | h1
      · have hk := of_decide_eq_true h1; subst hk
        exact ((q_brk ha).cat (by decide) lq_blank).catP (q_brk hb)
      · have hk := of_decide_eq_true h1; subst hk
        exact ((((lq40.catP (q_brk ha)).cat (by decide) (lq44.cat lq_blank)).catP (q_brk hb)).cat (by decide) lq41).p
      · have hk := of_decide_eq_true h1; subst hk
        exact ((((lq40.catP (q_brk ha)).cat (by decide) (lq_blank.cat (lq58.cat lq_blank))).catP (q_brk hb)).cat (by decide) lq41).p
    · have hk := of_decide_eq_true h1; subst hk
      exact ((q_brk (l_bare a h3)).cat (by decide) (lq_blank.cat (lq64.cat lq_blank))).catP (l_fm h4 2)
    · have hk := of_decide_eq_true h1; subst hk
      exact ((lq91.catP (l_box true [a, b] (by simp [Sp.elems, h3, h4]))).cat (by decide) lq93).p
  | .mk k nm (a :: b :: c :: l) nms pl, h => by
    simp only [Sp.right, Bool.and_eq_true] at h
    obtain ⟨⟨⟨_, h1⟩, _⟩, ⟨⟨h2, h3⟩, h4⟩, h5⟩ := h
    have hk := of_decide_eq_true h1; subst hk
    exact ((lq91.catP (l_box true (a :: b :: c :: l) (by simp [Sp.elems, h2, h3, h4, h5]))).cat (by decide) lq93).p
theorem l_el : ∀ t : T, Sp.elem t = true → LP1 (Sp.elT t) (kEl t)
  | .mk k nm [] nms pl, h => by simp [Sp.elem] at h
  | .mk k nm [f] nms pl, h => by
    simp only [Sp.elem, Bool.and_eq_true] at h
    exact ((l_face h.2).cat LQ.nil).p
  | .mk k nm [f, u] nms pl, h => by
    simp only [Sp.elem, Bool.and_eq_true] at h
    exact (l_face h.1.2).catP ((lq_blank.cat (lq_arr.cat lq_blank)).catP (q_brk (l_bare u h.2)))
  | .mk k nm (a :: b :: c :: l) nms pl, h => by simp [Sp.elem] at h
theorem l_box : ∀ (b : Bool) (l : List T), Sp.elems l = true → LP1 (Sp.boxT b l) (kBox b l)
  | _, [], _ => LQ.nil.p
  | b, [e], h => by
    simp only [Sp.elems, Bool.and_eq_true] at h
    have he := l_el e h.1
    have : LP1 ((bif b then [] else [44, 32]) ++ Sp.elT e ++ []) ((bif b then [] else [sg 44]) ++ kEl e ++ []) := by
      rw [List.append_nil, List.append_nil]
      cases b
      · exact (lq44.cat lq_blank).catP he
      · exact he
    exact this
  | b, e :: e' :: l, h => by
    rw [Sp.elems, Bool.and_eq_true] at h
    have he := l_el e h.1
    have hr := l_box false (e' :: l) h.2
    have h1 : LP1 ((bif b then [] else [44, 32]) ++ Sp.elT e) ((bif b then [] else [sg 44]) ++ kEl e) := by
      cases b
      · exact (lq44.cat lq_blank).catP he
      · exact he
    exact h1.catP (by decide) hr
end
end Go.Vai
end
