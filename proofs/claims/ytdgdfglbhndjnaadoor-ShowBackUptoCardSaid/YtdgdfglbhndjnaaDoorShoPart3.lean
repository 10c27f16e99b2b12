/-
  Show: each of the printer's functions prints its text.
  Show: formulas are printed.
  Show: terms are printed: binders.
  Show: boxes are printed.
  Show: terms are printed.
  Show: how long texts are; the reference's join.
  Show: the reference's formulas and boxes.
  Show: the reference's texts.
  Show: the reference's texts: whole.
  Show: what has been printed; what the files' functions call.
  Show: how great a tree is.
  Show: the reference's Bulk; great.
  Show: files.
-/
import Derived.Test.YtdgdfglbhndjnaaDoorShoPart2

set_option linter.all false
set_option linter.unusedSimpArgs false
set_option linter.unusedVariables false

section
namespace Go.Vai
open Go.Proofs

theorem g69 (n : Nat) (k : Int) (nm : List UInt8) (kids : List T) (nms : List (List UInt8)) (pl : Int) : evBody cx (CK.plain none1) n 69 [.d (.agg [.int .i64 k, .str nm, .sl 5 (T.ds kids), .sl 1 (nms.map .str), .int .i64 pl])] [] = bif decide (k = (2 : Int)) then bif decide (k = (2 : Int)) then some (Out.ret (V.d (D.int IntKind.i64 (0 : Int))), []) else bif decide (k = (6 : Int)) then bif decide (k = (6 : Int)) then some (Out.ret (V.d (D.int IntKind.i64 (1 : Int))), []) else some (Out.ret (V.d (D.int IntKind.i64 (2 : Int))), []) else bif decide (k = (7 : Int)) then some (Out.ret (V.d (D.int IntKind.i64 (1 : Int))), []) else some (Out.ret (V.d (D.int IntKind.i64 (2 : Int))), []) else bif decide (k = (3 : Int)) then bif decide (k = (3 : Int)) then some (Out.ret (V.d (D.int IntKind.i64 (0 : Int))), []) else bif decide (k = (6 : Int)) then bif decide (k = (6 : Int)) then some (Out.ret (V.d (D.int IntKind.i64 (1 : Int))), []) else some (Out.ret (V.d (D.int IntKind.i64 (2 : Int))), []) else bif decide (k = (7 : Int)) then some (Out.ret (V.d (D.int IntKind.i64 (1 : Int))), []) else some (Out.ret (V.d (D.int IntKind.i64 (2 : Int))), []) else bif decide (k = (4 : Int)) then bif decide (k = (4 : Int)) then some (Out.ret (V.d (D.int IntKind.i64 (0 : Int))), []) else bif decide (k = (6 : Int)) then bif decide (k = (6 : Int)) then some (Out.ret (V.d (D.int IntKind.i64 (1 : Int))), []) else some (Out.ret (V.d (D.int IntKind.i64 (2 : Int))), []) else bif decide (k = (7 : Int)) then some (Out.ret (V.d (D.int IntKind.i64 (1 : Int))), []) else some (Out.ret (V.d (D.int IntKind.i64 (2 : Int))), []) else bif decide (k = (5 : Int)) then some (Out.ret (V.d (D.int IntKind.i64 (0 : Int))), []) else bif decide (k = (6 : Int)) then bif decide (k = (6 : Int)) then some (Out.ret (V.d (D.int IntKind.i64 (1 : Int))), []) else some (Out.ret (V.d (D.int IntKind.i64 (2 : Int))), []) else bif decide (k = (7 : Int)) then some (Out.ret (V.d (D.int IntKind.i64 (1 : Int))), []) else some (Out.ret (V.d (D.int IntKind.i64 (2 : Int))), []) := by kernel_rfl

theorem g107 (n : Nat) (k : Int) : evBody cx (CK.plain none1) n 107 [.d (.int .i64 k)] [] = bif decide (k = (14 : Int)) then some (Out.ret (V.d (D.int IntKind.i64 (0 : Int))), []) else bif decide (k = (15 : Int)) then some (Out.ret (V.d (D.int IntKind.i64 (1 : Int))), []) else some (Out.ret (V.d (D.int IntKind.i64 (2 : Int))), []) := by kernel_rfl

theorem g108U (n m : Nat) (L : List D) (u : Bool) (k : Int) (nm : List UInt8) (kids : List T) (nms : List (List UInt8)) (pl : Int) : evBody cx (KM m) n 108 [.ptr 0 0, .ptr 1 0] (ps108 u L (.agg [.int .i64 k, .str nm, .sl 5 (T.ds kids), .sl 1 (nms.map .str), .int .i64 pl])) = bif decide (k = (16 : Int)) then must (Sp.fit L.length L) (must (Sp.room L [126]) (must (decide ((0 : Int) < (↑(T.ds kids).length : Int))) (nthD (T.ds kids) (0 : Int).toNat fun y => nthD y.cells 0 fun c => nthD y.cells 1 fun c_1 => nthD y.cells 2 fun c_2 => nthD y.cells 3 fun c_3 => nthD y.cells 4 fun c_4 => optK (optK (Sp.toT m (D.agg [c, c_1, c_2, c_3, c_4])) fun t => must (Sp.form t) (some (Sp.fm t (2 : Int)))) fun s => must (Sp.fit (Sp.app L [126]).length (Sp.app L [126])) (must (Sp.room (Sp.app L [126]) s) (some (Out.ret (V.tup []), [(0, Ob.val 5 (V.d (D.agg [D.int IntKind.i64 k, D.str nm, D.sl 5 (T.ds kids), D.sl 1 (List.map D.str nms), D.int IntKind.i64 pl]))), (1, Ob.val 1 (V.ptr 2 0)), (2, Ob.val 76546051 (V.agg [V.ptr 2 0, V.sl 6291457 (Sp.app (Sp.app L [126]) s) 3, V.d (D.bool false)])), (3, Ob.tok (Sp.app (Sp.app L [126]) s).length)])))))) else bif decide (k = (15 : Int)) then must (decide ((0 : Int) < (↑(T.ds kids).length : Int))) (nthD (T.ds kids) (0 : Int).toNat fun y => nthD y.cells 0 fun c => nthD y.cells 1 fun c_1 => nthD y.cells 2 fun c_2 => nthD y.cells 3 fun c_3 => nthD y.cells 4 fun c_4 => optK (optK (Sp.toT m (D.agg [c, c_1, c_2, c_3, c_4])) fun t => must (Sp.form t) (some (Sp.fm t (1 : Int)))) fun s => must (Sp.fit L.length L) (must (Sp.room L s) (must (Sp.fit (Sp.app L s).length (Sp.app L s)) (must (Sp.room (Sp.app L s) [32, 47, 92, 32]) (must (decide ((1 : Int) < (↑(T.ds kids).length : Int))) (nthD (T.ds kids) (1 : Int).toNat fun y => nthD y.cells 0 fun c => nthD y.cells 1 fun c_5 => nthD y.cells 2 fun c_6 => nthD y.cells 3 fun c_7 => nthD y.cells 4 fun c_8 => optK (optK (Sp.toT m (D.agg [c, c_5, c_6, c_7, c_8])) fun t => must (Sp.form t) (some (Sp.fm t (2 : Int)))) fun s_1 => must (Sp.fit (Sp.app (Sp.app L s) [32, 47, 92, 32]).length (Sp.app (Sp.app L s) [32, 47, 92, 32])) (must (Sp.room (Sp.app (Sp.app L s) [32, 47, 92, 32]) s_1) (some (Out.ret (V.tup []), [(0, Ob.val 5 (V.d (D.agg [D.int IntKind.i64 k, D.str nm, D.sl 5 (T.ds kids), D.sl 1 (List.map D.str nms), D.int IntKind.i64 pl]))), (1, Ob.val 1 (V.ptr 2 0)), (2, Ob.val 76546051 (V.agg [V.ptr 2 0, V.sl 6291457 (Sp.app (Sp.app (Sp.app L s) [32, 47, 92, 32]) s_1) 3, V.d (D.bool false)])), (3, Ob.tok (Sp.app (Sp.app (Sp.app L s) [32, 47, 92, 32]) s_1).length)]))))))))) else bif decide (k = (14 : Int)) then must (decide ((0 : Int) < (↑(T.ds kids).length : Int))) (nthD (T.ds kids) (0 : Int).toNat fun y => nthD y.cells 0 fun c => nthD y.cells 1 fun c_1 => nthD y.cells 2 fun c_2 => nthD y.cells 3 fun c_3 => nthD y.cells 4 fun c_4 => optK (optK (Sp.toT m (D.agg [c, c_1, c_2, c_3, c_4])) fun t => must (Sp.form t) (some (Sp.fm t (0 : Int)))) fun s => must (Sp.fit L.length L) (must (Sp.room L s) (must (Sp.fit (Sp.app L s).length (Sp.app L s)) (must (Sp.room (Sp.app L s) [32, 92, 47, 32]) (must (decide ((1 : Int) < (↑(T.ds kids).length : Int))) (nthD (T.ds kids) (1 : Int).toNat fun y => nthD y.cells 0 fun c => nthD y.cells 1 fun c_5 => nthD y.cells 2 fun c_6 => nthD y.cells 3 fun c_7 => nthD y.cells 4 fun c_8 => optK (optK (Sp.toT m (D.agg [c, c_5, c_6, c_7, c_8])) fun t => must (Sp.form t) (some (Sp.fm t (1 : Int)))) fun s_1 => must (Sp.fit (Sp.app (Sp.app L s) [32, 92, 47, 32]).length (Sp.app (Sp.app L s) [32, 92, 47, 32])) (must (Sp.room (Sp.app (Sp.app L s) [32, 92, 47, 32]) s_1) (some (Out.ret (V.tup []), [(0, Ob.val 5 (V.d (D.agg [D.int IntKind.i64 k, D.str nm, D.sl 5 (T.ds kids), D.sl 1 (List.map D.str nms), D.int IntKind.i64 pl]))), (1, Ob.val 1 (V.ptr 2 0)), (2, Ob.val 76546051 (V.agg [V.ptr 2 0, V.sl 6291457 (Sp.app (Sp.app (Sp.app L s) [32, 92, 47, 32]) s_1) 3, V.d (D.bool false)])), (3, Ob.tok (Sp.app (Sp.app (Sp.app L s) [32, 92, 47, 32]) s_1).length)]))))))))) else must (Sp.fit L.length L) (must (Sp.room L (nm ++ [])) (some (Out.ret (V.tup []), [(0, Ob.val 5 (V.d (D.agg [D.int IntKind.i64 k, D.str nm, D.sl 5 (T.ds kids), D.sl 1 (List.map D.str nms), D.int IntKind.i64 pl]))), (1, Ob.val 1 (V.ptr 2 0)), (2, Ob.val 76546051 (V.agg [V.ptr 2 0, V.sl 6291457 (Sp.app L (nm ++ [])) 3, V.d (D.bool false)])), (3, Ob.tok (Sp.app L (nm ++ [])).length)]))) := by cases u <;> kernel_rfl

theorem g70U (n m : Nat) (L : List D) (u : Bool) (k : Int) (nm : List UInt8) (kids : List T) (nms : List (List UInt8)) (pl : Int) : evBody cx (prK 71 decT1 (sp71 m) K91) n 70 [.ptr 0 0, .ptr 3 0] (ps70 u L (.agg [.int .i64 k, .str nm, .sl 5 (T.ds kids), .sl 1 (nms.map .str), .int .i64 pl])) = optK (optK (Sp.toT m (D.agg [D.int IntKind.i64 k, D.str nm, D.sl 5 (T.ds kids), D.sl 1 (List.map D.str nms), D.int IntKind.i64 pl])) fun t => must (Sp.right t) (some (Sp.bare t))) fun s => must (Sp.fit L.length L) (must (Sp.room L s) (some (Out.ret (V.tup []), [(0, Ob.val 1 (V.ptr 1 0)), (1, Ob.val 76546051 (V.agg [V.ptr 1 0, V.sl 6291457 (Sp.app L s) 2, V.d (D.bool false)])), (2, Ob.tok (Sp.app L s).length), (3, Ob.val 5 (V.d (D.agg [D.int IntKind.i64 k, D.str nm, D.sl 5 (T.ds kids), D.sl 1 (List.map D.str nms), D.int IntKind.i64 pl])))]))) := by cases u <;> kernel_rfl

theorem g106U (n m : Nat) (L : List D) (u : Bool) (k : Int) (nm : List UInt8) (kids : List T) (nms : List (List UInt8)) (pl : Int) : evBody cx (KT m) n 106 [.ptr 0 0, .ptr 3 0] (ps70 u L (.agg [.int .i64 k, .str nm, .sl 5 (T.ds kids), .sl 1 (nms.map .str), .int .i64 pl])) = optK (optK (Sp.toT m (D.agg [D.int IntKind.i64 k, D.str nm, D.sl 5 (T.ds kids), D.sl 1 (List.map D.str nms), D.int IntKind.i64 pl])) fun t => must (Sp.right t) (some (Sp.text t (1 : Int)))) fun s => must (Sp.fit L.length L) (must (Sp.room L s) (some (Out.ret (V.tup []), [(0, Ob.val 1 (V.ptr 1 0)), (1, Ob.val 76546051 (V.agg [V.ptr 1 0, V.sl 6291457 (Sp.app L s) 2, V.d (D.bool false)])), (2, Ob.tok (Sp.app L s).length), (3, Ob.val 5 (V.d (D.agg [D.int IntKind.i64 k, D.str nm, D.sl 5 (T.ds kids), D.sl 1 (List.map D.str nms), D.int IntKind.i64 pl])))]))) := by cases u <;> kernel_rfl

theorem g93U (n m : Nat) (L : List D) (u : Bool) (k : Int) (nm : List UInt8) (kids : List T) (nms : List (List UInt8)) (pl : Int) (s : List UInt8) : evBody cx (KT m) n 93 [.ptr 0 0, .d (.agg [.int .i64 k, .str nm, .sl 5 (T.ds kids), .sl 1 (nms.map .str), .int .i64 pl]), .d (.str s)] (psS u L) = must (Sp.fit L.length L) (must (Sp.room L [40]) (must (decide ((0 : Int) < (↑(T.ds kids).length : Int))) (nthD (T.ds kids) (0 : Int).toNat fun y => nthD y.cells 0 fun c => nthD y.cells 1 fun c_1 => nthD y.cells 2 fun c_2 => nthD y.cells 3 fun c_3 => nthD y.cells 4 fun c_4 => optK (optK (Sp.toT m (D.agg [c, c_1, c_2, c_3, c_4])) fun t => must (Sp.right t) (some (Sp.text t (0 : Int)))) fun s_1 => must (Sp.fit (Sp.app L [40]).length (Sp.app L [40])) (must (Sp.room (Sp.app L [40]) s_1) (must (Sp.fit (Sp.app (Sp.app L [40]) s_1).length (Sp.app (Sp.app L [40]) s_1)) (must (Sp.room (Sp.app (Sp.app L [40]) s_1) (s ++ [])) (must (decide ((1 : Int) < (↑(T.ds kids).length : Int))) (nthD (T.ds kids) (1 : Int).toNat fun y => nthD y.cells 0 fun c => nthD y.cells 1 fun c_5 => nthD y.cells 2 fun c_6 => nthD y.cells 3 fun c_7 => nthD y.cells 4 fun c_8 => optK (optK (Sp.toT m (D.agg [c, c_5, c_6, c_7, c_8])) fun t => must (Sp.right t) (some (Sp.text t (0 : Int)))) fun s_2 => must (Sp.fit (Sp.app (Sp.app (Sp.app L [40]) s_1) (s ++ [])).length (Sp.app (Sp.app (Sp.app L [40]) s_1) (s ++ []))) (must (Sp.room (Sp.app (Sp.app (Sp.app L [40]) s_1) (s ++ [])) s_2) (must (Sp.fit (Sp.app (Sp.app (Sp.app (Sp.app L [40]) s_1) (s ++ [])) s_2).length (Sp.app (Sp.app (Sp.app (Sp.app L [40]) s_1) (s ++ [])) s_2)) (must (Sp.room (Sp.app (Sp.app (Sp.app (Sp.app L [40]) s_1) (s ++ [])) s_2) [41]) (some (Out.ret (V.tup []), [(0, Ob.val 76546051 (V.agg [V.ptr 0 0, V.sl 6291457 (Sp.app (Sp.app (Sp.app (Sp.app (Sp.app L [40]) s_1) (s ++ [])) s_2) [41]) 1, V.d (D.bool false)])), (1, Ob.tok (Sp.app (Sp.app (Sp.app (Sp.app (Sp.app L [40]) s_1) (s ++ [])) s_2) [41]).length)]))))))))))))) := by cases u <;> kernel_rfl

theorem g68aU (n m : Nat) (L : List D) (u : Bool) (k : Int) (nm : List UInt8) (kids : List T) (nms : List (List UInt8)) (pl : Int) (b : Bool) : evBody cx (clK 70 dec70 ps70D ps70 (fun _ x => sp71 m x) K91) n 68 [.ptr 0 0, .d (.bool b), .func 70 [.ptr 2 0, .ptr 3 0]] (psB u L (.agg [.int .i64 k, .str nm, .sl 5 (T.ds kids), .sl 1 (nms.map .str), .int .i64 pl])) = bif b then must (Sp.fit L.length L) (must (Sp.room L [40]) (optK (optK (Sp.toT m (D.agg [D.int IntKind.i64 k, D.str nm, D.sl 5 (T.ds kids), D.sl 1 (List.map D.str nms), D.int IntKind.i64 pl])) fun t => must (Sp.right t) (some (Sp.bare t))) fun s => must (Sp.fit (Sp.app L [40]).length (Sp.app L [40])) (must (Sp.room (Sp.app L [40]) s) (bif b then must (Sp.fit (Sp.app (Sp.app L [40]) s).length (Sp.app (Sp.app L [40]) s)) (must (Sp.room (Sp.app (Sp.app L [40]) s) [41]) (some (Out.ret (V.tup []), [(0, Ob.val 76546051 (V.agg [V.ptr 0 0, V.sl 6291457 (Sp.app (Sp.app (Sp.app L [40]) s) [41]) 1, V.d (D.bool false)])), (1, Ob.tok (Sp.app (Sp.app (Sp.app L [40]) s) [41]).length), (2, Ob.val 1 (V.ptr 0 0)), (3, Ob.val 5 (V.d (D.agg [D.int IntKind.i64 k, D.str nm, D.sl 5 (T.ds kids), D.sl 1 (List.map D.str nms), D.int IntKind.i64 pl])))]))) else some (Out.ret (V.tup []), [(0, Ob.val 76546051 (V.agg [V.ptr 0 0, V.sl 6291457 (Sp.app (Sp.app L [40]) s) 1, V.d (D.bool false)])), (1, Ob.tok (Sp.app (Sp.app L [40]) s).length), (2, Ob.val 1 (V.ptr 0 0)), (3, Ob.val 5 (V.d (D.agg [D.int IntKind.i64 k, D.str nm, D.sl 5 (T.ds kids), D.sl 1 (List.map D.str nms), D.int IntKind.i64 pl])))]))))) else optK (optK (Sp.toT m (D.agg [D.int IntKind.i64 k, D.str nm, D.sl 5 (T.ds kids), D.sl 1 (List.map D.str nms), D.int IntKind.i64 pl])) fun t => must (Sp.right t) (some (Sp.bare t))) fun s => must (Sp.fit L.length L) (must (Sp.room L s) (bif b then must (Sp.fit (Sp.app L s).length (Sp.app L s)) (must (Sp.room (Sp.app L s) [41]) (some (Out.ret (V.tup []), [(0, Ob.val 76546051 (V.agg [V.ptr 0 0, V.sl 6291457 (Sp.app (Sp.app L s) [41]) 1, V.d (D.bool false)])), (1, Ob.tok (Sp.app (Sp.app L s) [41]).length), (2, Ob.val 1 (V.ptr 0 0)), (3, Ob.val 5 (V.d (D.agg [D.int IntKind.i64 k, D.str nm, D.sl 5 (T.ds kids), D.sl 1 (List.map D.str nms), D.int IntKind.i64 pl])))]))) else some (Out.ret (V.tup []), [(0, Ob.val 76546051 (V.agg [V.ptr 0 0, V.sl 6291457 (Sp.app L s) 1, V.d (D.bool false)])), (1, Ob.tok (Sp.app L s).length), (2, Ob.val 1 (V.ptr 0 0)), (3, Ob.val 5 (V.d (D.agg [D.int IntKind.i64 k, D.str nm, D.sl 5 (T.ds kids), D.sl 1 (List.map D.str nms), D.int IntKind.i64 pl])))]))) := by cases u <;> kernel_rfl

theorem g68bU (n m : Nat) (L : List D) (u : Bool) (k : Int) (nm : List UInt8) (kids : List T) (nms : List (List UInt8)) (pl : Int) (b : Bool) : evBody cx (clK 106 dec70 ps70D ps70 (fun _ x => sp39 m (x, 1)) K91) n 68 [.ptr 0 0, .d (.bool b), .func 106 [.ptr 2 0, .ptr 3 0]] (psB u L (.agg [.int .i64 k, .str nm, .sl 5 (T.ds kids), .sl 1 (nms.map .str), .int .i64 pl])) = bif b then must (Sp.fit L.length L) (must (Sp.room L [40]) (optK (optK (Sp.toT m (D.agg [D.int IntKind.i64 k, D.str nm, D.sl 5 (T.ds kids), D.sl 1 (List.map D.str nms), D.int IntKind.i64 pl])) fun t => must (Sp.right t) (some (Sp.text t 1))) fun s => must (Sp.fit (Sp.app L [40]).length (Sp.app L [40])) (must (Sp.room (Sp.app L [40]) s) (bif b then must (Sp.fit (Sp.app (Sp.app L [40]) s).length (Sp.app (Sp.app L [40]) s)) (must (Sp.room (Sp.app (Sp.app L [40]) s) [41]) (some (Out.ret (V.tup []), [(0, Ob.val 76546051 (V.agg [V.ptr 0 0, V.sl 6291457 (Sp.app (Sp.app (Sp.app L [40]) s) [41]) 1, V.d (D.bool false)])), (1, Ob.tok (Sp.app (Sp.app (Sp.app L [40]) s) [41]).length), (2, Ob.val 1 (V.ptr 0 0)), (3, Ob.val 5 (V.d (D.agg [D.int IntKind.i64 k, D.str nm, D.sl 5 (T.ds kids), D.sl 1 (List.map D.str nms), D.int IntKind.i64 pl])))]))) else some (Out.ret (V.tup []), [(0, Ob.val 76546051 (V.agg [V.ptr 0 0, V.sl 6291457 (Sp.app (Sp.app L [40]) s) 1, V.d (D.bool false)])), (1, Ob.tok (Sp.app (Sp.app L [40]) s).length), (2, Ob.val 1 (V.ptr 0 0)), (3, Ob.val 5 (V.d (D.agg [D.int IntKind.i64 k, D.str nm, D.sl 5 (T.ds kids), D.sl 1 (List.map D.str nms), D.int IntKind.i64 pl])))]))))) else optK (optK (Sp.toT m (D.agg [D.int IntKind.i64 k, D.str nm, D.sl 5 (T.ds kids), D.sl 1 (List.map D.str nms), D.int IntKind.i64 pl])) fun t => must (Sp.right t) (some (Sp.text t 1))) fun s => must (Sp.fit L.length L) (must (Sp.room L s) (bif b then must (Sp.fit (Sp.app L s).length (Sp.app L s)) (must (Sp.room (Sp.app L s) [41]) (some (Out.ret (V.tup []), [(0, Ob.val 76546051 (V.agg [V.ptr 0 0, V.sl 6291457 (Sp.app (Sp.app L s) [41]) 1, V.d (D.bool false)])), (1, Ob.tok (Sp.app (Sp.app L s) [41]).length), (2, Ob.val 1 (V.ptr 0 0)), (3, Ob.val 5 (V.d (D.agg [D.int IntKind.i64 k, D.str nm, D.sl 5 (T.ds kids), D.sl 1 (List.map D.str nms), D.int IntKind.i64 pl])))]))) else some (Out.ret (V.tup []), [(0, Ob.val 76546051 (V.agg [V.ptr 0 0, V.sl 6291457 (Sp.app L s) 1, V.d (D.bool false)])), (1, Ob.tok (Sp.app L s).length), (2, Ob.val 1 (V.ptr 0 0)), (3, Ob.val 5 (V.d (D.agg [D.int IntKind.i64 k, D.str nm, D.sl 5 (T.ds kids), D.sl 1 (List.map D.str nms), D.int IntKind.i64 pl])))]))) := by cases u <;> kernel_rfl

theorem g68cU (n m : Nat) (L : List D) (u : Bool) (k : Int) (nm : List UInt8) (kids : List T) (nms : List (List UInt8)) (pl : Int) (b : Bool) : evBody cx (clK 108 dec108 ps108D ps108 (fun _ x => sp108 m x) K91) n 68 [.ptr 0 0, .d (.bool b), .func 108 [.ptr 2 0, .ptr 3 0]] (psF u L (.agg [.int .i64 k, .str nm, .sl 5 (T.ds kids), .sl 1 (nms.map .str), .int .i64 pl])) = bif b then must (Sp.fit L.length L) (must (Sp.room L [40]) (optK (optK (Sp.toT m (D.agg [D.int IntKind.i64 k, D.str nm, D.sl 5 (T.ds kids), D.sl 1 (List.map D.str nms), D.int IntKind.i64 pl])) fun t => must (Sp.form t) (some (Sp.fmb t))) fun s => must (Sp.fit (Sp.app L [40]).length (Sp.app L [40])) (must (Sp.room (Sp.app L [40]) s) (bif b then must (Sp.fit (Sp.app (Sp.app L [40]) s).length (Sp.app (Sp.app L [40]) s)) (must (Sp.room (Sp.app (Sp.app L [40]) s) [41]) (some (Out.ret (V.tup []), [(0, Ob.val 76546051 (V.agg [V.ptr 0 0, V.sl 6291457 (Sp.app (Sp.app (Sp.app L [40]) s) [41]) 1, V.d (D.bool false)])), (1, Ob.tok (Sp.app (Sp.app (Sp.app L [40]) s) [41]).length), (2, Ob.val 5 (V.d (D.agg [D.int IntKind.i64 k, D.str nm, D.sl 5 (T.ds kids), D.sl 1 (List.map D.str nms), D.int IntKind.i64 pl]))), (3, Ob.val 1 (V.ptr 0 0))]))) else some (Out.ret (V.tup []), [(0, Ob.val 76546051 (V.agg [V.ptr 0 0, V.sl 6291457 (Sp.app (Sp.app L [40]) s) 1, V.d (D.bool false)])), (1, Ob.tok (Sp.app (Sp.app L [40]) s).length), (2, Ob.val 5 (V.d (D.agg [D.int IntKind.i64 k, D.str nm, D.sl 5 (T.ds kids), D.sl 1 (List.map D.str nms), D.int IntKind.i64 pl]))), (3, Ob.val 1 (V.ptr 0 0))]))))) else optK (optK (Sp.toT m (D.agg [D.int IntKind.i64 k, D.str nm, D.sl 5 (T.ds kids), D.sl 1 (List.map D.str nms), D.int IntKind.i64 pl])) fun t => must (Sp.form t) (some (Sp.fmb t))) fun s => must (Sp.fit L.length L) (must (Sp.room L s) (bif b then must (Sp.fit (Sp.app L s).length (Sp.app L s)) (must (Sp.room (Sp.app L s) [41]) (some (Out.ret (V.tup []), [(0, Ob.val 76546051 (V.agg [V.ptr 0 0, V.sl 6291457 (Sp.app (Sp.app L s) [41]) 1, V.d (D.bool false)])), (1, Ob.tok (Sp.app (Sp.app L s) [41]).length), (2, Ob.val 5 (V.d (D.agg [D.int IntKind.i64 k, D.str nm, D.sl 5 (T.ds kids), D.sl 1 (List.map D.str nms), D.int IntKind.i64 pl]))), (3, Ob.val 1 (V.ptr 0 0))]))) else some (Out.ret (V.tup []), [(0, Ob.val 76546051 (V.agg [V.ptr 0 0, V.sl 6291457 (Sp.app L s) 1, V.d (D.bool false)])), (1, Ob.tok (Sp.app L s).length), (2, Ob.val 5 (V.d (D.agg [D.int IntKind.i64 k, D.str nm, D.sl 5 (T.ds kids), D.sl 1 (List.map D.str nms), D.int IntKind.i64 pl]))), (3, Ob.val 1 (V.ptr 0 0))]))) := by cases u <;> kernel_rfl

theorem g92U (n m : Nat) (L : List D) (u : Bool) (k : Int) (nm : List UInt8) (kids : List T) (nms : List (List UInt8)) (pl a : Int) : evBody cx (K108 m) n 92 [.ptr 0 0, .d (.agg [.int .i64 k, .str nm, .sl 5 (T.ds kids), .sl 1 (nms.map .str), .int .i64 pl]), .d (.int .i64 a)] (psS u L) = optK (optK (optK (Sp.toT m (D.agg [D.int IntKind.i64 k, D.str nm, D.sl 5 (T.ds kids), D.sl 1 (List.map D.str nms), D.int IntKind.i64 pl])) fun t => must (Sp.form t) (some (Sp.fmb t))) fun s => some (Sp.brk (decide (Sp.rnk k < a)) s)) fun s => must (Sp.fit L.length L) (must (Sp.room L s) (some (Out.ret (V.tup []), [(0, Ob.val 76546051 (V.agg [V.ptr 0 0, V.sl 6291457 (Sp.app L s) 1, V.d (D.bool false)])), (1, Ob.tok (Sp.app L s).length)]))) := by cases u <;> kernel_rfl

theorem g39U (n m : Nat) (L : List D) (u : Bool) (k : Int) (nm : List UInt8) (kids : List T) (nms : List (List UInt8)) (pl a : Int) : evBody cx (K70 m) n 39 [.ptr 0 0, .d (.agg [.int .i64 k, .str nm, .sl 5 (T.ds kids), .sl 1 (nms.map .str), .int .i64 pl]), .d (.int .i64 a)] (psS u L) = optK (Sp.toC (D.agg [D.int IntKind.i64 k, D.str nm, D.sl 5 (T.ds kids), D.sl 1 (List.map D.str nms), D.int IntKind.i64 pl])) fun b => optK (optK (optK (Sp.toT m (D.agg [D.int IntKind.i64 k, D.str nm, D.sl 5 (T.ds kids), D.sl 1 (List.map D.str nms), D.int IntKind.i64 pl])) fun t => must (Sp.right t) (some (Sp.bare t))) fun s => some (Sp.brk (decide (Sp.cls b.k < a)) s)) fun s => must (Sp.fit L.length L) (must (Sp.room L s) (some (Out.ret (V.tup []), [(0, Ob.val 76546051 (V.agg [V.ptr 0 0, V.sl 6291457 (Sp.app L s) 1, V.d (D.bool false)])), (1, Ob.tok (Sp.app L s).length)]))) := by cases u <;> kernel_rfl

theorem g91U (n m : Nat) (L : List D) (u : Bool) (k : Int) (nm : List UInt8) (kids : List T) (nms : List (List UInt8)) (pl : Int) (s : List UInt8) : evBody cx (K106 m) n 91 [.ptr 0 0, .d (.agg [.int .i64 k, .str nm, .sl 5 (T.ds kids), .sl 1 (nms.map .str), .int .i64 pl]), .d (.str s)] (psS u L) = must (decide ((0 : Int) < (↑(T.ds kids).length : Int))) (nthD (T.ds kids) (0 : Int).toNat fun y => nthD y.cells 0 fun c => nthD y.cells 1 fun c_1 => nthD y.cells 2 fun c_2 => nthD y.cells 3 fun c_3 => nthD y.cells 4 fun c_4 => bif decide ((↑(List.map D.str nms).length : Int) = (1 : Int)) then must (decide ((0 : Int) < (↑(List.map D.str nms).length : Int))) (nthD (List.map D.str nms) (0 : Int).toNat fun y => nthD y.cells 0 fun c_5 => match c_5 with
 | D.str s_1 => must (Sp.fit L.length L) (must (Sp.room L (40 :: (s_1 ++ ([32, 58, 32] ++ [])))) (optK (optK (Sp.toT m (D.agg [c, c_1, c_2, c_3, c_4])) fun t => must (Sp.right t) (some (Sp.text t (0 : Int)))) fun s_2 => must (Sp.fit (Sp.app L (40 :: (s_1 ++ ([32, 58, 32] ++ [])))).length (Sp.app L (40 :: (s_1 ++ ([32, 58, 32] ++ []))))) (must (Sp.room (Sp.app L (40 :: (s_1 ++ ([32, 58, 32] ++ [])))) s_2) (must (Sp.fit (Sp.app (Sp.app L (40 :: (s_1 ++ ([32, 58, 32] ++ [])))) s_2).length (Sp.app (Sp.app L (40 :: (s_1 ++ ([32, 58, 32] ++ [])))) s_2)) (must (Sp.room (Sp.app (Sp.app L (40 :: (s_1 ++ ([32, 58, 32] ++ [])))) s_2) [41]) (must (Sp.fit (Sp.app (Sp.app (Sp.app L (40 :: (s_1 ++ ([32, 58, 32] ++ [])))) s_2) [41]).length (Sp.app (Sp.app (Sp.app L (40 :: (s_1 ++ ([32, 58, 32] ++ [])))) s_2) [41])) (must (Sp.room (Sp.app (Sp.app (Sp.app L (40 :: (s_1 ++ ([32, 58, 32] ++ [])))) s_2) [41]) (s ++ [])) (must (decide ((1 : Int) < (↑(T.ds kids).length : Int))) (nthD (T.ds kids) (1 : Int).toNat fun y => nthD y.cells 0 fun c => nthD y.cells 1 fun c_6 => nthD y.cells 2 fun c_7 => nthD y.cells 3 fun c_8 => nthD y.cells 4 fun c_9 => optK (optK (Sp.toT m (D.agg [c, c_6, c_7, c_8, c_9])) fun t => must (Sp.right t) (some (Sp.text t (0 : Int)))) fun s_3 => must (Sp.fit (Sp.app (Sp.app (Sp.app (Sp.app L (40 :: (s_1 ++ ([32, 58, 32] ++ [])))) s_2) [41]) (s ++ [])).length (Sp.app (Sp.app (Sp.app (Sp.app L (40 :: (s_1 ++ ([32, 58, 32] ++ [])))) s_2) [41]) (s ++ []))) (must (Sp.room (Sp.app (Sp.app (Sp.app (Sp.app L (40 :: (s_1 ++ ([32, 58, 32] ++ [])))) s_2) [41]) (s ++ [])) s_3) (some (Out.ret (V.tup []), [(0, Ob.val 76546051 (V.agg [V.ptr 0 0, V.sl 6291457 (Sp.app (Sp.app (Sp.app (Sp.app (Sp.app L (40 :: (s_1 ++ ([32, 58, 32] ++ [])))) s_2) [41]) (s ++ [])) s_3) 1, V.d (D.bool false)])), (1, Ob.tok (Sp.app (Sp.app (Sp.app (Sp.app (Sp.app L (40 :: (s_1 ++ ([32, 58, 32] ++ [])))) s_2) [41]) (s ++ [])) s_3).length)]))))))))))))
 | x => none) else match c with
 | D.int k' n => bif decide (k' = IntKind.i64) then bif decide (n = (9 : Int)) then match c_2 with
  | D.sl s_1 l => bif s_1.beq (cx.P.cellsOf 26) || l.isEmpty then must (decide ((0 : Int) < (↑l.length : Int))) (nthD l (0 : Int).toNat fun y => nthD y.cells 0 fun c_5 => match c_5 with
   | D.int k' n => bif decide (k' = IntKind.i64) then optK (optK (optK (Sp.toT m (D.agg [c, c_1, c_2, c_3, c_4])) fun t => must (Sp.right t) (some (Sp.text t 1))) fun s => some (Sp.brk (decide (n = (1 : Int))) s)) fun s_2 => must (Sp.fit L.length L) (must (Sp.room L s_2) (must (Sp.fit (Sp.app L s_2).length (Sp.app L s_2)) (must (Sp.room (Sp.app L s_2) (s ++ [])) (must (decide ((1 : Int) < (↑(T.ds kids).length : Int))) (nthD (T.ds kids) (1 : Int).toNat fun y => nthD y.cells 0 fun c => nthD y.cells 1 fun c_6 => nthD y.cells 2 fun c_7 => nthD y.cells 3 fun c_8 => nthD y.cells 4 fun c_9 => optK (optK (Sp.toT m (D.agg [c, c_6, c_7, c_8, c_9])) fun t => must (Sp.right t) (some (Sp.text t (0 : Int)))) fun s_3 => must (Sp.fit (Sp.app (Sp.app L s_2) (s ++ [])).length (Sp.app (Sp.app L s_2) (s ++ []))) (must (Sp.room (Sp.app (Sp.app L s_2) (s ++ [])) s_3) (some (Out.ret (V.tup []), [(0, Ob.val 76546051 (V.agg [V.ptr 0 0, V.sl 6291457 (Sp.app (Sp.app (Sp.app L s_2) (s ++ [])) s_3) 1, V.d (D.bool false)])), (1, Ob.tok (Sp.app (Sp.app (Sp.app L s_2) (s ++ [])) s_3).length)])))))))) else none
   | x => none) else none
  | x => none else optK (optK (optK (Sp.toT m (D.agg [c, c_1, c_2, c_3, c_4])) fun t => must (Sp.right t) (some (Sp.text t 1))) fun s => some s) fun s_1 => must (Sp.fit L.length L) (must (Sp.room L s_1) (must (Sp.fit (Sp.app L s_1).length (Sp.app L s_1)) (must (Sp.room (Sp.app L s_1) (s ++ [])) (must (decide ((1 : Int) < (↑(T.ds kids).length : Int))) (nthD (T.ds kids) (1 : Int).toNat fun y => nthD y.cells 0 fun c => nthD y.cells 1 fun c_5 => nthD y.cells 2 fun c_6 => nthD y.cells 3 fun c_7 => nthD y.cells 4 fun c_8 => optK (optK (Sp.toT m (D.agg [c, c_5, c_6, c_7, c_8])) fun t => must (Sp.right t) (some (Sp.text t (0 : Int)))) fun s_2 => must (Sp.fit (Sp.app (Sp.app L s_1) (s ++ [])).length (Sp.app (Sp.app L s_1) (s ++ []))) (must (Sp.room (Sp.app (Sp.app L s_1) (s ++ [])) s_2) (some (Out.ret (V.tup []), [(0, Ob.val 76546051 (V.agg [V.ptr 0 0, V.sl 6291457 (Sp.app (Sp.app (Sp.app L s_1) (s ++ [])) s_2) 1, V.d (D.bool false)])), (1, Ob.tok (Sp.app (Sp.app (Sp.app L s_1) (s ++ [])) s_2).length)])))))))) else none
 | x => none) := by cases u <;> kernel_rfl

theorem g71_1U (n m : Nat) (L : List D) (u : Bool) (nm : List UInt8) (kids : List T) (nms : List (List UInt8)) (pl : Int) : evBody cx (K71 m) n 71 [.ptr 0 0, .d (.agg [.int .i64 1, .str nm, .sl 5 (T.ds kids), .sl 1 (nms.map .str), .int .i64 pl])] (psS u L) = must (Sp.fit L.length L) (must (Sp.room L (nm ++ [])) (some (Out.ret (V.tup []), [(0, Ob.val 76546051 (V.agg [V.ptr 0 0, V.sl 6291457 (Sp.app L (nm ++ [])) 1, V.d (D.bool false)])), (1, Ob.tok (Sp.app L (nm ++ [])).length)]))) := by cases u <;> kernel_rfl

theorem g71_2U (n m : Nat) (L : List D) (u : Bool) (nm : List UInt8) (kids : List T) (nms : List (List UInt8)) (pl : Int) : evBody cx (K71 m) n 71 [.ptr 0 0, .d (.agg [.int .i64 2, .str nm, .sl 5 (T.ds kids), .sl 1 (nms.map .str), .int .i64 pl])] (psS u L) = optK (Sp.nsS (D.sl 1 (List.map D.str nms), [32])) fun b => must (Sp.fit L.length L) (must (Sp.room L (92 :: (Sp.joinS b.fst b.snd ++ ([46, 32] ++ [])))) (must (decide ((0 : Int) < (↑(T.ds kids).length : Int))) (nthD (T.ds kids) (0 : Int).toNat fun y => nthD y.cells 0 fun c => nthD y.cells 1 fun c_1 => nthD y.cells 2 fun c_2 => nthD y.cells 3 fun c_3 => nthD y.cells 4 fun c_4 => optK (optK (Sp.toT m (D.agg [c, c_1, c_2, c_3, c_4])) fun t => must (Sp.right t) (some (Sp.text t (0 : Int)))) fun s => must (Sp.fit (Sp.app L (92 :: (Sp.joinS b.fst b.snd ++ ([46, 32] ++ [])))).length (Sp.app L (92 :: (Sp.joinS b.fst b.snd ++ ([46, 32] ++ []))))) (must (Sp.room (Sp.app L (92 :: (Sp.joinS b.fst b.snd ++ ([46, 32] ++ [])))) s) (some (Out.ret (V.tup []), [(0, Ob.val 76546051 (V.agg [V.ptr 0 0, V.sl 6291457 (Sp.app (Sp.app L (92 :: (Sp.joinS b.fst b.snd ++ ([46, 32] ++ [])))) s) 1, V.d (D.bool false)])), (1, Ob.tok (Sp.app (Sp.app L (92 :: (Sp.joinS b.fst b.snd ++ ([46, 32] ++ [])))) s).length)])))))) := by cases u <;> kernel_rfl

theorem g71_3U (n m : Nat) (L : List D) (u : Bool) (nm : List UInt8) (kids : List T) (nms : List (List UInt8)) (pl : Int) : evBody cx (K71 m) n 71 [.ptr 0 0, .d (.agg [.int .i64 3, .str nm, .sl 5 (T.ds kids), .sl 1 (nms.map .str), .int .i64 pl])] (psS u L) = optK (Sp.nsS (D.sl 1 (List.map D.str nms), [32])) fun b => must (Sp.fit L.length L) (must (Sp.room L (60 :: (Sp.joinS b.fst b.snd ++ ([62, 32] ++ [])))) (must (decide ((0 : Int) < (↑(T.ds kids).length : Int))) (nthD (T.ds kids) (0 : Int).toNat fun y => nthD y.cells 0 fun c => nthD y.cells 1 fun c_1 => nthD y.cells 2 fun c_2 => nthD y.cells 3 fun c_3 => nthD y.cells 4 fun c_4 => optK (optK (Sp.toT m (D.agg [c, c_1, c_2, c_3, c_4])) fun t => must (Sp.right t) (some (Sp.text t (0 : Int)))) fun s => must (Sp.fit (Sp.app L (60 :: (Sp.joinS b.fst b.snd ++ ([62, 32] ++ [])))).length (Sp.app L (60 :: (Sp.joinS b.fst b.snd ++ ([62, 32] ++ []))))) (must (Sp.room (Sp.app L (60 :: (Sp.joinS b.fst b.snd ++ ([62, 32] ++ [])))) s) (some (Out.ret (V.tup []), [(0, Ob.val 76546051 (V.agg [V.ptr 0 0, V.sl 6291457 (Sp.app (Sp.app L (60 :: (Sp.joinS b.fst b.snd ++ ([62, 32] ++ [])))) s) 1, V.d (D.bool false)])), (1, Ob.tok (Sp.app (Sp.app L (60 :: (Sp.joinS b.fst b.snd ++ ([62, 32] ++ [])))) s).length)])))))) := by cases u <;> kernel_rfl

theorem g71_4U (n m : Nat) (L : List D) (u : Bool) (nm : List UInt8) (kids : List T) (nms : List (List UInt8)) (pl : Int) : evBody cx (K71 m) n 71 [.ptr 0 0, .d (.agg [.int .i64 4, .str nm, .sl 5 (T.ds kids), .sl 1 (nms.map .str), .int .i64 pl])] (psS u L) = optK (optK (Sp.toT (m + 1) (D.agg [D.int IntKind.i64 (4 : Int), D.str nm, D.sl 5 (T.ds kids), D.sl 1 (List.map D.str nms), D.int IntKind.i64 pl])) fun t => must (Sp.isBd t) (some (Sp.bdT t [32, 45, 62, 32]))) fun s => must (Sp.fit L.length L) (must (Sp.room L s) (some (Out.ret (V.tup []), [(0, Ob.val 76546051 (V.agg [V.ptr 0 0, V.sl 6291457 (Sp.app L s) 1, V.d (D.bool false)])), (1, Ob.tok (Sp.app L s).length)]))) := by cases u <;> kernel_rfl

theorem g71_5U (n m : Nat) (L : List D) (u : Bool) (nm : List UInt8) (kids : List T) (nms : List (List UInt8)) (pl : Int) : evBody cx (K71 m) n 71 [.ptr 0 0, .d (.agg [.int .i64 5, .str nm, .sl 5 (T.ds kids), .sl 1 (nms.map .str), .int .i64 pl])] (psS u L) = optK (optK (Sp.toT (m + 1) (D.agg [D.int IntKind.i64 (5 : Int), D.str nm, D.sl 5 (T.ds kids), D.sl 1 (List.map D.str nms), D.int IntKind.i64 pl])) fun t => must (Sp.isBd t) (some (Sp.bdT t [32, 42, 32]))) fun s => must (Sp.fit L.length L) (must (Sp.room L s) (some (Out.ret (V.tup []), [(0, Ob.val 76546051 (V.agg [V.ptr 0 0, V.sl 6291457 (Sp.app L s) 1, V.d (D.bool false)])), (1, Ob.tok (Sp.app L s).length)]))) := by cases u <;> kernel_rfl

theorem g71_6U (n m : Nat) (L : List D) (u : Bool) (nm : List UInt8) (kids : List T) (nms : List (List UInt8)) (pl : Int) : evBody cx (K71 m) n 71 [.ptr 0 0, .d (.agg [.int .i64 6, .str nm, .sl 5 (T.ds kids), .sl 1 (nms.map .str), .int .i64 pl])] (psS u L) = must (decide ((0 : Int) < (↑(T.ds kids).length : Int))) (nthD (T.ds kids) (0 : Int).toNat fun y => nthD y.cells 0 fun c => nthD y.cells 1 fun c_1 => nthD y.cells 2 fun c_2 => nthD y.cells 3 fun c_3 => nthD y.cells 4 fun c_4 => optK (optK (Sp.toT m (D.agg [c, c_1, c_2, c_3, c_4])) fun t => must (Sp.right t) (some (Sp.text t (1 : Int)))) fun s => must (Sp.fit L.length L) (must (Sp.room L s) (must (Sp.fit (Sp.app L s).length (Sp.app L s)) (must (Sp.room (Sp.app L s) [32]) (must (decide ((1 : Int) < (↑(T.ds kids).length : Int))) (nthD (T.ds kids) (1 : Int).toNat fun y => nthD y.cells 0 fun c => nthD y.cells 1 fun c_5 => nthD y.cells 2 fun c_6 => nthD y.cells 3 fun c_7 => nthD y.cells 4 fun c_8 => optK (optK (Sp.toT m (D.agg [c, c_5, c_6, c_7, c_8])) fun t => must (Sp.right t) (some (Sp.text t (2 : Int)))) fun s_1 => must (Sp.fit (Sp.app (Sp.app L s) [32]).length (Sp.app (Sp.app L s) [32])) (must (Sp.room (Sp.app (Sp.app L s) [32]) s_1) (some (Out.ret (V.tup []), [(0, Ob.val 76546051 (V.agg [V.ptr 0 0, V.sl 6291457 (Sp.app (Sp.app (Sp.app L s) [32]) s_1) 1, V.d (D.bool false)])), (1, Ob.tok (Sp.app (Sp.app (Sp.app L s) [32]) s_1).length)]))))))))) := by cases u <;> kernel_rfl

theorem g71_7U (n m : Nat) (L : List D) (u : Bool) (nm : List UInt8) (kids : List T) (nms : List (List UInt8)) (pl : Int) : evBody cx (K71 m) n 71 [.ptr 0 0, .d (.agg [.int .i64 7, .str nm, .sl 5 (T.ds kids), .sl 1 (nms.map .str), .int .i64 pl])] (psS u L) = must (decide ((0 : Int) < (↑(T.ds kids).length : Int))) (nthD (T.ds kids) (0 : Int).toNat fun y => nthD y.cells 0 fun c => nthD y.cells 1 fun c_1 => nthD y.cells 2 fun c_2 => nthD y.cells 3 fun c_3 => nthD y.cells 4 fun c_4 => optK (optK (Sp.toT m (D.agg [c, c_1, c_2, c_3, c_4])) fun t => must (Sp.right t) (some (Sp.text t (1 : Int)))) fun s => must (Sp.fit L.length L) (must (Sp.room L s) (must (Sp.fit (Sp.app L s).length (Sp.app L s)) (must (Sp.room (Sp.app L s) [32, 64, 32]) (must (decide ((1 : Int) < (↑(T.ds kids).length : Int))) (nthD (T.ds kids) (1 : Int).toNat fun y => nthD y.cells 0 fun c => nthD y.cells 1 fun c_5 => nthD y.cells 2 fun c_6 => nthD y.cells 3 fun c_7 => nthD y.cells 4 fun c_8 => optK (optK (Sp.toC (D.agg [c, c_5, c_6, c_7, c_8])) fun t => must (Sp.form t) (some (Sp.fm t (2 : Int)))) fun s_1 => must (Sp.fit (Sp.app (Sp.app L s) [32, 64, 32]).length (Sp.app (Sp.app L s) [32, 64, 32])) (must (Sp.room (Sp.app (Sp.app L s) [32, 64, 32]) s_1) (some (Out.ret (V.tup []), [(0, Ob.val 76546051 (V.agg [V.ptr 0 0, V.sl 6291457 (Sp.app (Sp.app (Sp.app L s) [32, 64, 32]) s_1) 1, V.d (D.bool false)])), (1, Ob.tok (Sp.app (Sp.app (Sp.app L s) [32, 64, 32]) s_1).length)]))))))))) := by cases u <;> kernel_rfl

theorem g71_8U (n m : Nat) (L : List D) (u : Bool) (nm : List UInt8) (kids : List T) (nms : List (List UInt8)) (pl : Int) : evBody cx (K71 m) n 71 [.ptr 0 0, .d (.agg [.int .i64 8, .str nm, .sl 5 (T.ds kids), .sl 1 (nms.map .str), .int .i64 pl])] (psS u L) = optK (optK (Sp.toT (m + 1) (D.agg [D.int IntKind.i64 (8 : Int), D.str nm, D.sl 5 (T.ds kids), D.sl 1 (List.map D.str nms), D.int IntKind.i64 pl])) fun t => must (Sp.isTw t) (some (Sp.twT t [44, 32]))) fun s => must (Sp.fit L.length L) (must (Sp.room L s) (some (Out.ret (V.tup []), [(0, Ob.val 76546051 (V.agg [V.ptr 0 0, V.sl 6291457 (Sp.app L s) 1, V.d (D.bool false)])), (1, Ob.tok (Sp.app L s).length)]))) := by cases u <;> kernel_rfl

theorem g71_9U (n m : Nat) (L : List D) (u : Bool) (nm : List UInt8) (kids : List T) (nms : List (List UInt8)) (pl : Int) : evBody cx (K71 m) n 71 [.ptr 0 0, .d (.agg [.int .i64 9, .str nm, .sl 5 (T.ds kids), .sl 1 (nms.map .str), .int .i64 pl])] (psS u L) = optK (optK (Sp.toT (m + 1) (D.agg [D.int IntKind.i64 (9 : Int), D.str nm, D.sl 5 (T.ds kids), D.sl 1 (List.map D.str nms), D.int IntKind.i64 pl])) fun t => must (Sp.isTw t) (some (Sp.twT t [32, 58, 32]))) fun s => must (Sp.fit L.length L) (must (Sp.room L s) (some (Out.ret (V.tup []), [(0, Ob.val 76546051 (V.agg [V.ptr 0 0, V.sl 6291457 (Sp.app L s) 1, V.d (D.bool false)])), (1, Ob.tok (Sp.app L s).length)]))) := by cases u <;> kernel_rfl

theorem g71_10U (n m : Nat) (L : List D) (u : Bool) (nm : List UInt8) (kids : List T) (nms : List (List UInt8)) (pl : Int) : evBody cx (K71 m) n 71 [.ptr 0 0, .d (.agg [.int .i64 10, .str nm, .sl 5 (T.ds kids), .sl 1 (nms.map .str), .int .i64 pl])] (psS u L) = optK (optK (Sp.toT (m + 1) (D.agg [D.int IntKind.i64 (10 : Int), D.str nm, D.sl 5 (T.ds kids), D.sl 1 (List.map D.str nms), D.int IntKind.i64 pl])) fun t => must (Sp.isBx t) (some (Sp.bxT t))) fun s => must (Sp.fit L.length L) (must (Sp.room L s) (some (Out.ret (V.tup []), [(0, Ob.val 76546051 (V.agg [V.ptr 0 0, V.sl 6291457 (Sp.app L s) 1, V.d (D.bool false)])), (1, Ob.tok (Sp.app L s).length)]))) := by cases u <;> kernel_rfl

theorem room_of {L : List D} {s : List UInt8} (h : L.length + s.length ≤ 65536) : Sp.room L s = true := decide_eq_true h
theorem room_le {L : List D} {s : List UInt8} (h : Sp.room L s = true) : L.length + s.length ≤ 65536 := of_decide_eq_true h
theorem right_two {k : Int} {nm : List UInt8} {kids : List T} {nms : List (List UInt8)} {pl : Int} (h : Sp.right (.mk k nm kids nms pl) = true) (hk : k = 4 ∨ k = 5 ∨ k = 6 ∨ k = 8 ∨ k = 9) :
    ∃ a b, kids = [a, b] ∧ Sp.right a = true ∧ Sp.right b = true := by
  rcases kids with _ | ⟨a, _ | ⟨b, _ | ⟨c, l⟩⟩⟩ <;> rcases hk with rfl | rfl | rfl | rfl | rfl <;> simp [Sp.right] at h ⊢
  all_goals exact ⟨a, b, ⟨rfl, rfl⟩, h.2.1.2, h.2.2⟩

theorem lim93 {m : Nat} (hm : knows cx (KT m).S (evLim cx)) {u : Bool} {L : List D} {t : T} {s : List UInt8} (hd : t.depth ≤ m + 1) (ho : t.ok = true) (hi : Sp.isTw t = true) (hr : Sp.room L (Sp.twT t s) = true) :
    evLim cx 93 [.ptr 0 0, .d t.d, .d (.str s)] (psS u L) = some (.ret (.tup []), psS true (Sp.app L (Sp.twT t s))) := by
  obtain ⟨k, nm, kids, nms, pl⟩ := t
  obtain ⟨h1, h2, h3, h4, h5⟩ := ok_inv ho
  have hkd := depth_inv hd
  simp only [Sp.isTw, k_mk, Bool.and_eq_true, Bool.or_eq_true] at hi
  obtain ⟨a, b, rfl, ha, hb⟩ := right_two hi.1 (by rcases hi.2 with h | h <;> have := of_decide_eq_true h <;> omega)
  have hT : ∀ t ∈ [a, b], Sp.toT m t.d = some t := fun t h => kid_toT hkd h5 h
  have hlen := room_le hr
  simp only [Sp.twT, kids_mk, texts_at [a, b] 0 0 a rfl, texts_at [a, b] 0 1 b rfl, List.length_append, List.length_cons, List.length_nil] at hlen
  refine lim_bodyK hm (N := 0) ?_
  refine (g93U 0 m L u k nm [a, b] nms pl s).trans ?_
  simp only [Sp.twT, kids_mk, texts_at [a, b] 0 0 a rfl, texts_at [a, b] 0 1 b rfl]
  have e0 : decide ((0 : Int) < ((T.ds [a, b]).length : Int)) = true := by rw [ds_len]; rfl
  have e1 : decide ((1 : Int) < ((T.ds [a, b]).length : Int)) = true := by rw [ds_len]; rfl
  have n0 : [a, b][(0 : Int).toNat]? = some a := rfl
  have n1 : [a, b][(1 : Int).toNat]? = some b := rfl
  simp only [e0, e1, nthD_ds, n0, n1, cells_d, nth0, nth1, nth2, nth3, nth4, agg_d, hT a (by simp), hT b (by simp), optK, must, cond_true, fit_self, ha, hb]
  simp (disch := (simp only [app_len, List.length_append, List.length_cons, List.length_nil]; omega)) only [room_of, cond_true]
  simp [app_app, psS, adV]
end Go.Vai
end

section
namespace Go.Vai
open Go.Proofs

theorem lim69 (t : T) (h : t.ok = true) : evLim cx 69 [.d t.d] [] = some (.ret (mkI (Sp.cls t.k)), []) := by
  obtain ⟨k, nm, kids, nms, pl⟩ := t
  refine lim_bodyK none1K_knows (N := 0) ?_
  refine (g69 0 k nm kids nms pl).trans ?_
  simp only [k_mk, mkI, Sp.cls]
  have hk : k = 2 ∨ k = 3 ∨ k = 4 ∨ k = 5 ∨ k = 6 ∨ k = 7 ∨ (k ≠ 2 ∧ k ≠ 3 ∧ k ≠ 4 ∧ k ≠ 5 ∧ k ≠ 6 ∧ k ≠ 7) := by omega
  rcases hk with rfl | rfl | rfl | rfl | rfl | rfl | ⟨q1, q2, q3, q4, q5, q6⟩ <;> simp [*]
theorem lim107 (k : Int) : evLim cx 107 [.d (.int .i64 k)] [] = some (.ret (mkI (Sp.rnk k)), []) := by
  refine lim_bodyK none1K_knows (N := 0) ?_
  refine (g107 0 k).trans ?_
  simp only [mkI, Sp.rnk]
  cases decide (k = 14) <;> cases decide (k = 15) <;> rfl
theorem K91_knows : knows cx K91.S (evLim cx) := by
  have h107 := pureK_knows (f := 107) (dec := decI1) (sp := some) (mk := fun k => mkI (Sp.rnk k)) K90_knows fun a q b hd h hb => by
    cases hb
    unfold decI1 at h
    split at h
    · cases h; exact lim107 _
    · cases h
  exact pureK_knows h107 fun a q b hd h hb => by
    obtain rfl := decD_some h
    obtain ⟨rfl, h1⟩ := toC_some hb
    exact lim69 b h1

theorem form_kids {k : Int} {nm : List UInt8} {kids : List T} {nms : List (List UInt8)} {pl : Int} (h : Sp.form (.mk k nm kids nms pl) = true) :
    (kids = [] ∧ (k = 1 ∨ k = 17)) ∨ (∃ a, kids = [a] ∧ k = 16 ∧ Sp.form a = true) ∨ (∃ a b, kids = [a, b] ∧ (k = 14 ∨ k = 15) ∧ Sp.form a = true ∧ Sp.form b = true) := by
  rcases kids with _ | ⟨a, _ | ⟨b, _ | ⟨c, l⟩⟩⟩ <;> simp [Sp.form] at h ⊢
  · rcases h.2 with h | h <;> simp [h.1]
  · exact ⟨h.1.1.1, h.2⟩
  · exact ⟨a, b, ⟨rfl, rfl⟩, h.1.1.1.1, h.1.2, h.2⟩

theorem lim108 {m : Nat} (hm : knows cx (KM m).S (evLim cx)) {u : Bool} {L : List D} {t : T} (hd : t.depth ≤ m + 1) (ho : t.ok = true) (hi : Sp.form t = true) (hr : Sp.room L (Sp.fmb t) = true) :
    evLim cx 108 [.ptr 0 0, .ptr 1 0] (ps108 u L t.d) = some (.ret (.tup []), ps108 true (Sp.app L (Sp.fmb t)) t.d) := by
  obtain ⟨k, nm, kids, nms, pl⟩ := t
  obtain ⟨h1, h2, h3, h4, h5⟩ := ok_inv ho
  have hkd := depth_inv hd
  have hT : ∀ t ∈ kids, Sp.toT m t.d = some t := fun t h => kid_toT hkd h5 h
  have hlen := room_le hr
  refine lim_bodyK hm (N := 0) ?_
  refine (g108U 0 m L u k nm kids nms pl).trans ?_
  rcases form_kids hi with ⟨rfl, hk⟩ | ⟨a, rfl, rfl, ha⟩ | ⟨a, b, rfl, hk, ha, hb⟩
  · have e : Sp.fmb (.mk k nm [] nms pl) = nm := by rcases hk with rfl | rfl <;> simp [Sp.fmb]
    rw [e] at hlen ⊢
    rw [decide_eq_false (p := k = 16) (by omega), decide_eq_false (p := k = 15) (by omega), decide_eq_false (p := k = 14) (by omega)]
    simp only [cond_false, fit_self, must, cond_true, List.append_nil]
    rw [room_of hlen]
    simp [ps108, T.d, T.ds]
  · have e : Sp.fmb (.mk 16 nm [a] nms pl) = [126] ++ Sp.fm a 2 := by simp [Sp.fmb, ← fms_at [a] 2 0 a rfl]
    rw [e] at hlen ⊢
    simp only [List.length_append, List.length_cons, List.length_nil] at hlen
    have e0 : decide ((0 : Int) < ((T.ds [a]).length : Int)) = true := by rw [ds_len]; rfl
    have n0 : [a][(0 : Int).toNat]? = some a := rfl
    simp only [decide_true, e0, nthD_ds, n0, cells_d, nth0, nth1, nth2, nth3, nth4, agg_d, hT a (by simp), optK, must, cond_true, fit_self, ha]
    simp (disch := ((try simp only [app_len, List.length_append, List.length_cons, List.length_nil]); omega)) only [room_of, cond_true]
    simp [app_app, ps108, T.d]
  · have e0 : decide ((0 : Int) < ((T.ds [a, b]).length : Int)) = true := by rw [ds_len]; rfl
    have e1 : decide ((1 : Int) < ((T.ds [a, b]).length : Int)) = true := by rw [ds_len]; rfl
    have n0 : [a, b][(0 : Int).toNat]? = some a := rfl
    have n1 : [a, b][(1 : Int).toNat]? = some b := rfl
    rcases hk with rfl | rfl
    · have e : Sp.fmb (.mk 14 nm [a, b] nms pl) = Sp.fm a 0 ++ [32, 92, 47, 32] ++ Sp.fm b 1 := by simp [Sp.fmb, ← fms_at [a, b] 0 0 a rfl, ← fms_at [a, b] 1 1 b rfl]
      rw [e] at hlen ⊢
      simp only [List.length_append, List.length_cons, List.length_nil] at hlen
      simp only [Int.reduceEq, decide_false, cond_false, decide_true, e0, e1, nthD_ds, n0, n1, cells_d, nth0, nth1, nth2, nth3, nth4, agg_d, hT a (by simp), hT b (by simp), optK, must, cond_true, fit_self, ha, hb]
      simp (disch := ((try simp only [app_len, List.length_append, List.length_cons, List.length_nil]); omega)) only [room_of, cond_true]
      simp [app_app, ps108, T.d]
    · have e : Sp.fmb (.mk 15 nm [a, b] nms pl) = Sp.fm a 1 ++ [32, 47, 92, 32] ++ Sp.fm b 2 := by simp [Sp.fmb, ← fms_at [a, b] 1 0 a rfl, ← fms_at [a, b] 2 1 b rfl]
      rw [e] at hlen ⊢
      simp only [List.length_append, List.length_cons, List.length_nil] at hlen
      simp only [Int.reduceEq, decide_false, cond_false, decide_true, e0, e1, nthD_ds, n0, n1, cells_d, nth0, nth1, nth2, nth3, nth4, agg_d, hT a (by simp), hT b (by simp), optK, must, cond_true, fit_self, ha, hb]
      simp (disch := ((try simp only [app_len, List.length_append, List.length_cons, List.length_nil]); omega)) only [room_of, cond_true]
      simp [app_app, ps108, T.d]

theorem brk_len (b : Bool) (s : List UInt8) : (Sp.brk b s).length = s.length + bif b then 2 else 0 := by cases b <;> simp [Sp.brk]

theorem lim68c {m : Nat} (hc : knows cx (clK 108 dec108 ps108D ps108 (fun _ x => sp108 m x) K91).S (evLim cx)) {u b : Bool} {L : List D} {t : T} (hd : t.depth ≤ m) (ho : t.ok = true) (hi : Sp.form t = true) (hr : Sp.room L (Sp.brk b (Sp.fmb t)) = true) :
    evLim cx 68 [.ptr 0 0, .d (.bool b), .func 108 [.ptr 2 0, .ptr 3 0]] (psF u L t.d) = some (.ret (.tup []), psF true (Sp.app L (Sp.brk b (Sp.fmb t))) t.d) := by
  have hT := toT_d hd ho
  have hlen := room_le hr
  rw [brk_len] at hlen
  refine lim_bodyK hc (N := 0) ?_
  obtain ⟨k, nm, kids, nms, pl⟩ := t
  refine (g68cU 0 m L u k nm kids nms pl b).trans ?_
  simp only [T.d] at hT
  cases b
  · simp only [cond_false] at hlen
    simp only [hT, optK, must, hi, cond_true, cond_false, fit_self]
    simp (disch := ((try simp only [app_len, List.length_append, List.length_cons, List.length_nil]); omega)) only [room_of, cond_true]
    simp [app_app, psF, psS, adV, T.d, Sp.brk]
  · simp only [cond_true] at hlen
    simp only [hT, optK, must, hi, cond_true, cond_false, fit_self]
    simp (disch := ((try simp only [app_len, List.length_append, List.length_cons, List.length_nil]); omega)) only [room_of, cond_true]
    simp [app_app, psF, psS, adV, T.d, Sp.brk]

theorem K108_knows {m : Nat} (h : ∀ {u L t}, t.depth ≤ m → t.ok = true → Sp.form t = true → Sp.room L (Sp.fmb t) = true → evLim cx 108 [.ptr 0 0, .ptr 1 0] (ps108 u L t.d) = some (.ret (.tup []), ps108 true (Sp.app L (Sp.fmb t)) t.d)) :
    knows cx (K108 m).S (evLim cx) := by
  have hc : knows cx (clK 108 dec108 ps108D ps108 (fun _ x => sp108 m x) K91).S (evLim cx) := clK_knows K91_knows ps108D_some fun a b x s u L ha hs hr => by
    obtain rfl := dec108_some ha
    obtain ⟨t, ht, hs⟩ := optK_some hs
    obtain ⟨hf, hs⟩ := must_some hs
    cases hs
    obtain ⟨rfl, h1, h2⟩ := toT_some ht
    exact h h1 h2 hf hr
  exact clK_knows K91_knows psFD_some fun a b x s u L ha hs hr => by
    obtain rfl := dec68_some ha
    obtain ⟨s', hs', hs⟩ := optK_some hs
    cases hs
    obtain ⟨t, ht, hs'⟩ := optK_some hs'
    obtain ⟨hf, hs'⟩ := must_some hs'
    cases hs'
    obtain ⟨rfl, h1, h2⟩ := toT_some ht
    exact lim68c hc h1 h2 hf hr

theorem lim92 : ∀ (m : Nat) (u : Bool) (L : List D) (t : T) (a : Int), t.depth ≤ m → t.ok = true → Sp.form t = true → Sp.room L (Sp.fm t a) = true →
    evLim cx 92 [.ptr 0 0, .d t.d, .d (.int .i64 a)] (psS u L) = some (.ret (.tup []), psS true (Sp.app L (Sp.fm t a)))
  | 0, _, _, .mk .., _, h, _, _, _ => by simp [T.depth] at h
  | m + 1, u, L, t, a, hd, ho, hi, hr => by
    have hm : knows cx (KM m).S (evLim cx) := prK_knows K91_knows fun a q s u L ha hs hr => by
      obtain ⟨x, n⟩ := q
      obtain rfl := decT2_some ha
      obtain ⟨t, ht, hs⟩ := optK_some hs
      obtain ⟨hf, hs⟩ := must_some hs
      cases hs
      obtain ⟨rfl, h1, h2⟩ := toT_some ht
      exact lim92 m u L t n h1 h2 hf hr
    have hK := K108_knows (m := m + 1) fun h1 h2 h3 h4 => lim108 hm h1 h2 h3 h4
    have hT := toT_d hd ho
    refine lim_bodyK hK (N := 0) ?_
    obtain ⟨k, nm, kids, nms, pl⟩ := t
    refine (g92U 0 (m + 1) L u k nm kids nms pl a).trans ?_
    simp only [T.d] at hT
    have hr : Sp.room L (Sp.brk (decide (Sp.rnk k < a)) (Sp.fmb (.mk k nm kids nms pl))) = true := hr
    show _ = some (Out.ret (V.tup []), psS true (Sp.app L (Sp.brk (decide (Sp.rnk k < a)) (Sp.fmb (.mk k nm kids nms pl)))))
    simp only [hT, optK, must, hi, cond_true, fit_self, hr]
    rfl
end Go.Vai
end

section
namespace Go.Vai
open Go.Proofs

theorem cells_mk {k : Int} {nm : List UInt8} {kids : List T} {nms : List (List UInt8)} {pl : Int} : (T.mk k nm kids nms pl).d.cells = [.int .i64 k, .str nm, .sl 5 (T.ds kids), .sl 1 (nms.map .str), .int .i64 pl] := rfl
theorem cells_str (s : List UInt8) : (D.str s).cells = [.str s] := rfl
theorem mk_eta (t : T) : T.mk t.k t.nm t.kids t.nms t.pl = t := by cases t; rfl
theorem agg_mk {k : Int} {nm : List UInt8} {kids : List T} {nms : List (List UInt8)} {pl : Int} : D.agg [.int .i64 k, .str nm, .sl 5 (T.ds kids), .sl 1 (nms.map .str), .int .i64 pl] = (T.mk k nm kids nms pl).d := rfl

theorem right_nms {k : Int} {nm : List UInt8} {kids : List T} {nms : List (List UInt8)} {pl : Int} (h : Sp.right (.mk k nm kids nms pl) = true) (hk : k = 4 ∨ k = 5) : nms = [] ∨ ∃ x, nms = [x] := by
  rcases kids with _ | ⟨a, _ | ⟨b, _ | ⟨c, l⟩⟩⟩ <;> rcases hk with rfl | rfl <;> simp [Sp.right] at h
  all_goals (rcases nms with _ | ⟨x, _ | ⟨y, r⟩⟩
             · exact .inl rfl
             · exact .inr ⟨x, rfl⟩
             · have := h.2.1.1.1; simp at this; omega)

theorem lim68b {m : Nat} (hc : knows cx (clK 106 dec70 ps70D ps70 (fun _ x => sp39 m (x, 1)) K91).S (evLim cx)) {u b : Bool} {L : List D} {t : T} (hd : t.depth ≤ m) (ho : t.ok = true) (hi : Sp.right t = true) (hr : Sp.room L (Sp.brk b (Sp.text t 1)) = true) :
    evLim cx 68 [.ptr 0 0, .d (.bool b), .func 106 [.ptr 2 0, .ptr 3 0]] (psB u L t.d) = some (.ret (.tup []), psB true (Sp.app L (Sp.brk b (Sp.text t 1))) t.d) := by
  have hT := toT_d hd ho
  have hlen := room_le hr
  rw [brk_len] at hlen
  refine lim_bodyK hc (N := 0) ?_
  obtain ⟨k, nm, kids, nms, pl⟩ := t
  refine (g68bU 0 m L u k nm kids nms pl b).trans ?_
  simp only [T.d] at hT
  cases b
  · simp only [cond_false] at hlen
    simp only [hT, optK, must, hi, cond_true, cond_false, fit_self]
    simp (disch := ((try simp only [app_len, List.length_append, List.length_cons, List.length_nil]); omega)) only [room_of, cond_true]
    simp [app_app, psB, psS, adV, T.d, Sp.brk]
  · simp only [cond_true] at hlen
    simp only [hT, optK, must, hi, cond_true, cond_false, fit_self]
    simp (disch := ((try simp only [app_len, List.length_append, List.length_cons, List.length_nil]); omega)) only [room_of, cond_true]
    simp [app_app, psB, psS, adV, T.d, Sp.brk]

theorem K106_knows {m : Nat} (hm : knows cx (KT m).S (evLim cx)) : knows cx (K106 m).S (evLim cx) := by
  have hc : knows cx (clK 106 dec70 ps70D ps70 (fun _ x => sp39 m (x, 1)) K91).S (evLim cx) := clK_knows K91_knows ps70D_some fun a b x s u L ha hs hr => by
    obtain rfl := dec70_some ha
    obtain ⟨t, ht, hs⟩ := optK_some hs
    obtain ⟨hf, hs⟩ := must_some hs
    cases hs
    obtain ⟨rfl, h1, h2⟩ := toT_some ht
    have hT := toT_d h1 h2
    refine lim_bodyK hm (N := 0) ?_
    obtain ⟨k, nm, kids, nms, pl⟩ := t
    refine (g106U 0 m L u k nm kids nms pl).trans ?_
    simp only [T.d] at hT
    simp only [hT, optK, must, hf, cond_true, fit_self, hr]
    rfl
  exact clK_knows hm psBD_some fun a b x s u L ha hs hr => by
    obtain rfl := dec68_some ha
    obtain ⟨s', hs', hs⟩ := optK_some hs
    cases hs
    obtain ⟨t, ht, hs'⟩ := optK_some hs'
    obtain ⟨hf, hs'⟩ := must_some hs'
    cases hs'
    obtain ⟨rfl, h1, h2⟩ := toT_some ht
    exact lim68b hc h1 h2 hf hr

theorem lim91 {m : Nat} (hm : knows cx (KT m).S (evLim cx)) {u : Bool} {L : List D} {t : T} {s : List UInt8} (hd : t.depth ≤ m + 1) (ho : t.ok = true) (hi : Sp.isBd t = true) (hr : Sp.room L (Sp.bdT t s) = true) :
    evLim cx 91 [.ptr 0 0, .d t.d, .d (.str s)] (psS u L) = some (.ret (.tup []), psS true (Sp.app L (Sp.bdT t s))) := by
  obtain ⟨k, nm, kids, nms, pl⟩ := t
  obtain ⟨h1, h2, h3, h4, h5⟩ := ok_inv ho
  have hkd := depth_inv hd
  simp only [Sp.isBd, k_mk, Bool.and_eq_true, Bool.or_eq_true] at hi
  have hk : k = 4 ∨ k = 5 := by rcases hi.2 with h | h <;> have := of_decide_eq_true h <;> omega
  obtain ⟨a, b, rfl, ha, hb⟩ := right_two hi.1 (by omega)
  have hT : ∀ t ∈ [a, b], Sp.toT m t.d = some t := fun t h => kid_toT hkd h5 h
  have hlen := room_le hr
  simp only [Sp.bdT, texts_at [a, b] 0 0 a rfl, texts_at [a, b] 1 0 a rfl, texts_at [a, b] 0 1 b rfl] at hlen
  refine lim_bodyK (K106_knows hm) (N := 0) ?_
  refine (g91U 0 m L u k nm [a, b] nms pl s).trans ?_
  simp only [Sp.bdT, texts_at [a, b] 0 0 a rfl, texts_at [a, b] 1 0 a rfl, texts_at [a, b] 0 1 b rfl]
  have e0 : decide ((0 : Int) < ((T.ds [a, b]).length : Int)) = true := by rw [ds_len]; rfl
  have e1 : decide ((1 : Int) < ((T.ds [a, b]).length : Int)) = true := by rw [ds_len]; rfl
  have n0 : [a, b][(0 : Int).toNat]? = some a := rfl
  have n1 : [a, b][(1 : Int).toNat]? = some b := rfl
  rcases right_nms hi.1 hk with rfl | ⟨x, rfl⟩
  · have hl0 : decide ((([] : List (List UInt8)).map D.str).length = (1 : Int)) = false := rfl
    simp only [List.length_nil, Nat.zero_ne_one, decide_false, cond_false, List.length_append, brk_len] at hlen ⊢
    by_cases h9 : a.k = 9
    · obtain ⟨k', nm', kids', nms', pl'⟩ := a
      simp only [k_mk] at h9
      subst h9
      obtain ⟨c, d, rfl, _, _⟩ := right_two ha (by omega)
      have e2 : decide ((0 : Int) < ((T.ds [c, d]).length : Int)) = true := by rw [ds_len]; rfl
      have n2 : [c, d][(0 : Int).toNat]? = some c := rfl
      have ea : Sp.annN [.mk 9 nm' [c, d] nms' pl', b] = decide (c.k = 1) := by
        obtain ⟨k3, _, _, _, _⟩ := c
        simp only [Sp.annN, decide_true, Bool.true_and]; rfl
      simp only [hl0, e0, e1, e2, nthD_ds, n0, n1, n2, ↓cells_mk, cells_d, nth0, nth1, nth2, nth3, nth4, agg_mk, mk_eta, hT _ (List.mem_cons_self ..), hT b (by simp), optK, must, cond_true, cond_false, fit_self, ha, hb, decide_true, spl26, Bool.true_or]
      rw [ea] at hlen ⊢
      generalize decide (c.k = 1) = q at hlen ⊢
      cases q
      · simp only [cond_false, Sp.brk] at hlen ⊢
        simp (disch := ((try simp only [app_len, List.length_append, List.length_cons, List.length_nil]); omega)) only [room_of, cond_true]
        simp [app_app, psS, adV]
      · simp only [cond_true, Sp.brk] at hlen ⊢
        simp (disch := ((try simp only [app_len, List.length_append, List.length_cons, List.length_nil]); omega)) only [room_of, cond_true]
        simp [app_app, psS, adV]
    · have ea : Sp.annN [a, b] = false := by
        obtain ⟨k', nm', kids', nms', pl'⟩ := a
        simp only [k_mk] at h9
        rcases kids' with _ | ⟨⟨_, _, _, _, _⟩, _⟩ <;> simp [Sp.annN, h9]
      simp only [hl0, e0, e1, nthD_ds, n0, n1, cells_d, nth0, nth1, nth2, nth3, nth4, agg_d, hT a (by simp), hT b (by simp), optK, must, cond_true, cond_false, fit_self, ha, hb, decide_true]
      rw [ea] at hlen ⊢
      rw [decide_eq_false h9]
      simp only [decide_true, cond_true, cond_false, Sp.brk] at hlen ⊢
      simp (disch := ((try simp only [app_len, List.length_append, List.length_cons, List.length_nil]); omega)) only [room_of, cond_true]
      simp [app_app, psS, adV]
  · simp only [List.length_cons, List.length_nil, Nat.zero_add, decide_true, cond_true, List.length_append] at hlen ⊢
    have nx : [x][(0 : Int).toNat]? = some x := rfl
    have ex : Sp.at [x] 0 = x := rfl
    rw [ex] at hlen ⊢
    simp only [e0, e1, nthD_ds, n0, n1, cells_d, nth0, nth1, nth2, nth3, nth4, agg_d, hT a (by simp), hT b (by simp), optK, must, cond_true, fit_self, ha, hb, List.length_map, lenO, lenP, nthD_strs, nx, List.length_cons, List.length_nil, Nat.lt_add_one, decide_true, cells_str]
    simp (disch := ((try simp only [app_len, List.length_append, List.length_cons, List.length_nil]); omega)) only [room_of, cond_true]
    simp [app_app, psS, adV]
end Go.Vai
end

section
namespace Go.Vai
open Go.Proofs

theorem g94U (n m : Nat) (L : List D) (u : Bool) (k : Int) (nm : List UInt8) (kids : List T) (nms : List (List UInt8)) (pl : Int) : evBody cx (KT m) n 94 [.ptr 0 0, .d (.agg [.int .i64 k, .str nm, .sl 5 (T.ds kids), .sl 1 (nms.map .str), .int .i64 pl])] (psS u L) = must (Sp.fit L.length L) (must (Sp.room L [91]) (LP cx (KT m) n 94 2 3 n [(0, V.ptr 0 0), (12, V.d (D.sl 5 (T.ds kids))), (13, V.d (D.int IntKind.i64 (↑(T.ds kids).length : Int))), (14, V.d (D.int IntKind.i64 (0 : Int)))] [(0, Ob.val 76546051 (V.agg [V.ptr 0 0, V.sl 6291457 (Sp.app L [91]) 1, V.d (D.bool false)])), (1, Ob.tok (Sp.app L [91]).length)] (AK cx (KT m) n 94 2 3 (EK cx 94 2)))) := by cases u <;> kernel_rfl

theorem l94 (n m r : Nat) (L : List D) (kids : List T) (i : Int) : LP cx (KT m) n 94 2 3 (r + 1) [(0, V.ptr 0 0), (12, V.d (D.sl 5 (T.ds kids))), (13, V.d (D.int IntKind.i64 (kids.length : Int))), (14, V.d (D.int IntKind.i64 i))] (psS true L) (AK cx (KT m) n 94 2 3 (EK cx 94 2)) = bif decide (i < (↑kids.length : Int)) then must (decide (0 ≤ i) && decide (i < (↑(T.ds kids).length : Int))) (nthD (T.ds kids) i.toNat fun y => nthD y.cells 0 fun c => nthD y.cells 1 fun c_1 => nthD y.cells 2 fun c_2 => nthD y.cells 3 fun c_3 => nthD y.cells 4 fun c_4 => bif decide ((0 : Int) < i) then must (Sp.fit L.length L) (must (Sp.room L [44, 32]) (match c_2 with
 | D.sl s l => bif s.beq (cx.P.cellsOf 26) || l.isEmpty then must (decide ((0 : Int) < (↑l.length : Int))) (nthD l (0 : Int).toNat fun y => nthD y.cells 2 fun c_5 => match c_5 with
  | D.sl s l => bif s.beq (cx.P.cellsOf 26) || l.isEmpty then bif decide ((↑l.length : Int) = (0 : Int)) then must (Sp.fit (Sp.app L [44, 32]).length (Sp.app L [44, 32])) (must (Sp.room (Sp.app L [44, 32]) [49]) (match c_2 with
   | D.sl s l => bif s.beq (cx.P.cellsOf 26) || l.isEmpty then must (decide ((0 : Int) < (↑l.length : Int))) (nthD l (0 : Int).toNat fun y => nthD y.cells 2 fun c_6 => match c_6 with
    | D.sl s l => bif s.beq (cx.P.cellsOf 26) || l.isEmpty then LP cx (KT m) n 94 2 10 n [(0, V.ptr 0 0), (5, V.ptr 7 0), (12, V.d (D.sl 5 (T.ds kids))), (13, V.d (D.int IntKind.i64 (↑kids.length : Int))), (14, V.d (D.int IntKind.i64 i)), (38, V.d (D.sl 5 l)), (39, V.d (D.int IntKind.i64 (↑l.length : Int))), (40, V.d (D.int IntKind.i64 (0 : Int)))] [(0, Ob.val 76546051 (V.agg [V.ptr 0 0, V.sl 6291457 (Sp.app (Sp.app L [44, 32]) [49]) 1, V.d (D.bool false)])), (1, Ob.tok (Sp.app (Sp.app L [44, 32]) [49]).length), (7, Ob.val 5 (V.d (D.agg [c, c_1, c_2, c_3, c_4])))] (AL cx (KT m) n 94 2 3 10 (inK cx (KT m) n 94 2 3 r (AK cx (KT m) n 94 2 3 (EK cx 94 2)))) else none
    | x => none) else none
   | x => none)) else match c_2 with
   | D.sl s l => bif s.beq (cx.P.cellsOf 26) || l.isEmpty then must (decide ((0 : Int) < (↑l.length : Int))) (nthD l (0 : Int).toNat fun y => nthD y.cells 2 fun c_6 => match c_6 with
    | D.sl s l => bif s.beq (cx.P.cellsOf 26) || l.isEmpty then LP cx (KT m) n 94 2 10 n [(0, V.ptr 0 0), (5, V.ptr 7 0), (12, V.d (D.sl 5 (T.ds kids))), (13, V.d (D.int IntKind.i64 (↑kids.length : Int))), (14, V.d (D.int IntKind.i64 i)), (38, V.d (D.sl 5 l)), (39, V.d (D.int IntKind.i64 (↑l.length : Int))), (40, V.d (D.int IntKind.i64 (0 : Int)))] [(0, Ob.val 76546051 (V.agg [V.ptr 0 0, V.sl 6291457 (Sp.app L [44, 32]) 1, V.d (D.bool false)])), (1, Ob.tok (Sp.app L [44, 32]).length), (7, Ob.val 5 (V.d (D.agg [c, c_1, c_2, c_3, c_4])))] (AL cx (KT m) n 94 2 3 10 (inK cx (KT m) n 94 2 3 r (AK cx (KT m) n 94 2 3 (EK cx 94 2)))) else none
    | x => none) else none
   | x => none else none
  | x => none) else none
 | x => none)) else match c_2 with
 | D.sl s l => bif s.beq (cx.P.cellsOf 26) || l.isEmpty then must (decide ((0 : Int) < (↑l.length : Int))) (nthD l (0 : Int).toNat fun y => nthD y.cells 2 fun c_5 => match c_5 with
  | D.sl s l => bif s.beq (cx.P.cellsOf 26) || l.isEmpty then bif decide ((↑l.length : Int) = (0 : Int)) then must (Sp.fit L.length L) (must (Sp.room L [49]) (match c_2 with
   | D.sl s l => bif s.beq (cx.P.cellsOf 26) || l.isEmpty then must (decide ((0 : Int) < (↑l.length : Int))) (nthD l (0 : Int).toNat fun y => nthD y.cells 2 fun c_6 => match c_6 with
    | D.sl s l => bif s.beq (cx.P.cellsOf 26) || l.isEmpty then LP cx (KT m) n 94 2 10 n [(0, V.ptr 0 0), (5, V.ptr 7 0), (12, V.d (D.sl 5 (T.ds kids))), (13, V.d (D.int IntKind.i64 (↑kids.length : Int))), (14, V.d (D.int IntKind.i64 i)), (38, V.d (D.sl 5 l)), (39, V.d (D.int IntKind.i64 (↑l.length : Int))), (40, V.d (D.int IntKind.i64 (0 : Int)))] [(0, Ob.val 76546051 (V.agg [V.ptr 0 0, V.sl 6291457 (Sp.app L [49]) 1, V.d (D.bool false)])), (1, Ob.tok (Sp.app L [49]).length), (7, Ob.val 5 (V.d (D.agg [c, c_1, c_2, c_3, c_4])))] (AL cx (KT m) n 94 2 3 10 (inK cx (KT m) n 94 2 3 r (AK cx (KT m) n 94 2 3 (EK cx 94 2)))) else none
    | x => none) else none
   | x => none)) else match c_2 with
   | D.sl s l => bif s.beq (cx.P.cellsOf 26) || l.isEmpty then must (decide ((0 : Int) < (↑l.length : Int))) (nthD l (0 : Int).toNat fun y => nthD y.cells 2 fun c_6 => match c_6 with
    | D.sl s l => bif s.beq (cx.P.cellsOf 26) || l.isEmpty then LP cx (KT m) n 94 2 10 n [(0, V.ptr 0 0), (5, V.ptr 7 0), (12, V.d (D.sl 5 (T.ds kids))), (13, V.d (D.int IntKind.i64 (↑kids.length : Int))), (14, V.d (D.int IntKind.i64 i)), (38, V.d (D.sl 5 l)), (39, V.d (D.int IntKind.i64 (↑l.length : Int))), (40, V.d (D.int IntKind.i64 (0 : Int)))] [(0, Ob.val 76546051 (V.agg [V.ptr 0 0, V.sl 6291457 L 1, V.d (D.bool false)])), (1, Ob.tok L.length), (7, Ob.val 5 (V.d (D.agg [c, c_1, c_2, c_3, c_4])))] (AL cx (KT m) n 94 2 3 10 (inK cx (KT m) n 94 2 3 r (AK cx (KT m) n 94 2 3 (EK cx 94 2)))) else none
    | x => none) else none
   | x => none else none
  | x => none) else none
 | x => none) else must (Sp.fit L.length L) (must (Sp.room L [93]) (some (Out.ret (V.tup []), [(0, Ob.val 76546051 (V.agg [V.ptr 0 0, V.sl 6291457 (Sp.app L [93]) 1, V.d (D.bool false)])), (1, Ob.tok (Sp.app L [93]).length)]))) := by kernel_rfl

theorem i94 (n m r q : Nat) (L : List D) (kids qs kids' : List T) (i j k' pl' : Int) (nm' : List UInt8) (nms' : List (List UInt8)) : LP cx (KT m) n 94 2 10 (q + 1) [(0, V.ptr 0 0), (5, V.ptr 7 0), (12, V.d (D.sl 5 (T.ds kids))), (13, V.d (D.int IntKind.i64 (kids.length : Int))), (14, V.d (D.int IntKind.i64 i)), (38, V.d (D.sl 5 (T.ds qs))), (39, V.d (D.int IntKind.i64 (qs.length : Int))), (40, V.d (D.int IntKind.i64 j))] [(0, Ob.val 76546051 (V.agg [V.ptr 0 0, V.sl 6291457 L 1, V.d (D.bool false)])), (1, Ob.tok L.length), (7, Ob.val 5 (V.d (D.agg [D.int IntKind.i64 k', D.str nm', D.sl 5 (T.ds kids'), D.sl 1 (nms'.map .str), D.int IntKind.i64 pl'])))] (AL cx (KT m) n 94 2 3 10 (inK cx (KT m) n 94 2 3 r (AK cx (KT m) n 94 2 3 (EK cx 94 2)))) = bif decide (j < (↑qs.length : Int)) then must (decide (0 ≤ j) && decide (j < (↑(T.ds qs).length : Int))) (nthD (T.ds qs) j.toNat fun y => nthD y.cells 0 fun c => nthD y.cells 1 fun c => nthD y.cells 2 fun c_1 => nthD y.cells 3 fun c_2 => nthD y.cells 4 fun c_3 => match c with
 | D.str s => match c_2 with
  | D.sl s_1 l => bif s_1.beq (cx.P.cellsOf 9) || l.isEmpty then must (decide ((0 : Int) < (↑l.length : Int))) (nthD l (0 : Int).toNat fun y => nthD y.cells 0 fun c => match c with
   | D.str s_2 => must (Sp.fit L.length L) (must (Sp.room L (40 :: (s ++ ([61] ++ (s_2 ++ ([41] ++ [])))))) (LP cx (KT m) n 94 2 10 q [(0, V.ptr 0 0), (5, V.ptr 7 0), (12, V.d (D.sl 5 (T.ds kids))), (13, V.d (D.int IntKind.i64 (↑kids.length : Int))), (14, V.d (D.int IntKind.i64 i)), (38, V.d (D.sl 5 (T.ds qs))), (39, V.d (D.int IntKind.i64 (↑qs.length : Int))), (40, V.d (D.int IntKind.i64 (IntKind.i64.wrap (j + (1 : Int)))))] [(0, Ob.val 76546051 (V.agg [V.ptr 0 0, V.sl 6291457 (Sp.app L (40 :: (s ++ ([61] ++ (s_2 ++ ([41] ++ [])))))) 1, V.d (D.bool false)])), (1, Ob.tok (Sp.app L (40 :: (s ++ ([61] ++ (s_2 ++ ([41] ++ [])))))).length), (7, Ob.val 5 (V.d (D.agg [D.int IntKind.i64 k', D.str nm', D.sl 5 (T.ds kids'), D.sl 1 (List.map D.str nms'), D.int IntKind.i64 pl'])))] (AL cx (KT m) n 94 2 3 10 (inK cx (KT m) n 94 2 3 r (AK cx (KT m) n 94 2 3 (EK cx 94 2))))))
   | x => none) else none
  | x => none
 | x => none) else bif decide ((↑(T.ds kids').length : Int) = (2 : Int)) then must (Sp.fit L.length L) (must (Sp.room L [32, 45, 62, 32]) (must (decide ((1 : Int) < (↑(T.ds kids').length : Int))) (nthD (T.ds kids') (1 : Int).toNat fun y => nthD y.cells 0 fun c => nthD y.cells 1 fun c_1 => nthD y.cells 2 fun c_2 => nthD y.cells 3 fun c_3 => nthD y.cells 4 fun c_4 => optK (optK (Sp.toT m (D.agg [c, c_1, c_2, c_3, c_4])) fun t => must (Sp.right t) (some (Sp.text t (0 : Int)))) fun s => must (Sp.fit (Sp.app L [32, 45, 62, 32]).length (Sp.app L [32, 45, 62, 32])) (must (Sp.room (Sp.app L [32, 45, 62, 32]) s) (LP cx (KT m) n 94 2 3 r [(0, V.ptr 0 0), (12, V.d (D.sl 5 (T.ds kids))), (13, V.d (D.int IntKind.i64 (↑kids.length : Int))), (14, V.d (D.int IntKind.i64 (IntKind.i64.wrap (i + (1 : Int)))))] [(0, Ob.val 76546051 (V.agg [V.ptr 0 0, V.sl 6291457 (Sp.app (Sp.app L [32, 45, 62, 32]) s) 1, V.d (D.bool false)])), (1, Ob.tok (Sp.app (Sp.app L [32, 45, 62, 32]) s).length)] (AK cx (KT m) n 94 2 3 (EK cx 94 2))))))) else LP cx (KT m) n 94 2 3 r [(0, V.ptr 0 0), (12, V.d (D.sl 5 (T.ds kids))), (13, V.d (D.int IntKind.i64 (↑kids.length : Int))), (14, V.d (D.int IntKind.i64 (IntKind.i64.wrap (i + (1 : Int)))))] [(0, Ob.val 76546051 (V.agg [V.ptr 0 0, V.sl 6291457 L 1, V.d (D.bool false)])), (1, Ob.tok L.length)] (AK cx (KT m) n 94 2 3 (EK cx 94 2)) := by kernel_rfl

noncomputable abbrev O94 (m n r : Nat) (L : List D) (kids : List T) (i : Int) : Option R1 :=
  LP cx (KT m) n 94 2 3 r [(0, V.ptr 0 0), (12, V.d (D.sl 5 (T.ds kids))), (13, V.d (D.int IntKind.i64 (kids.length : Int))), (14, V.d (D.int IntKind.i64 i))] [(0, Ob.val 76546051 (V.agg [V.ptr 0 0, V.sl 6291457 L 1, V.d (D.bool false)])), (1, Ob.tok L.length)] (AK cx (KT m) n 94 2 3 (EK cx 94 2))
noncomputable abbrev I94 (m n r q : Nat) (L : List D) (kids qs kids' : List T) (i j k' pl' : Int) (nm' : List UInt8) (nms' : List (List UInt8)) : Option R1 :=
  LP cx (KT m) n 94 2 10 q [(0, V.ptr 0 0), (5, V.ptr 7 0), (12, V.d (D.sl 5 (T.ds kids))), (13, V.d (D.int IntKind.i64 (kids.length : Int))), (14, V.d (D.int IntKind.i64 i)), (38, V.d (D.sl 5 (T.ds qs))), (39, V.d (D.int IntKind.i64 (qs.length : Int))), (40, V.d (D.int IntKind.i64 j))] [(0, Ob.val 76546051 (V.agg [V.ptr 0 0, V.sl 6291457 L 1, V.d (D.bool false)])), (1, Ob.tok L.length), (7, Ob.val 5 (V.d (D.agg [D.int IntKind.i64 k', D.str nm', D.sl 5 (T.ds kids'), D.sl 1 (nms'.map .str), D.int IntKind.i64 pl'])))] (AL cx (KT m) n 94 2 3 10 (inK cx (KT m) n 94 2 3 r (AK cx (KT m) n 94 2 3 (EK cx 94 2))))

def Sp.tailT (kids : List T) : List UInt8 := bif decide (kids.length = 2) then [32, 45, 62, 32] ++ Sp.at (Sp.texts kids 0) 1 else []

theorem eqn_inv {t : T} (h : Sp.eqn t = true) : ∃ nm x pl, t = .mk 13 nm [] [x] pl ∧ Sp.named nm = true ∧ Sp.bit x = true := by
  obtain ⟨k, nm, kids, nms, pl⟩ := t
  rcases kids with _ | ⟨a, kids⟩ <;> rcases nms with _ | ⟨x, _ | ⟨y, nms⟩⟩ <;> simp [Sp.eqn] at h
  obtain ⟨⟨rfl, h1⟩, h2⟩ := h
  exact ⟨nm, x, pl, rfl, h1, h2⟩

theorem inner94 {m n r : Nat} {kids qs kids' : List T} {i k' pl' : Int} {nm' : List UInt8} {nms' : List (List UInt8)} (hq : ∀ t ∈ qs, Sp.eqn t = true) (hl : qs.length < 4294967296)
    (hk : kids'.length = 2 → ∃ t, kids'[1]? = some t ∧ Sp.toT m t.d = some t ∧ Sp.right t = true) :
    ∀ (rest : List T) (j q : Nat) (L : List D), qs.drop j = rest → j ≤ qs.length → rest.length < q → Sp.room L ((rest.map Sp.eqT).flatten ++ Sp.tailT kids') = true →
      I94 m n r q L kids qs kids' i j k' pl' nm' nms' = O94 m n r (Sp.app L ((rest.map Sp.eqT).flatten ++ Sp.tailT kids')) kids (IntKind.i64.wrap (i + 1))
  | [], j, q, L, hd, hj, hk', hr => by
    obtain ⟨q, rfl⟩ : ∃ i, q = i + 1 := ⟨q - 1, by omega⟩
    have : qs.length ≤ j := by simpa using hd
    obtain rfl : j = qs.length := by omega
    simp only [List.map_nil, List.flatten_nil, List.nil_append] at hr ⊢
    have hlen := room_le hr
    simp only [I94, O94]
    rw [i94, ge_nat, cond_false, ds_len, lenT]
    by_cases h2 : kids'.length = 2
    · obtain ⟨t, ht, hT, hrt⟩ := hk h2
      have n1 : kids'[(1 : Int).toNat]? = some t := ht
      have e : Sp.tailT kids' = [32, 45, 62, 32] ++ Sp.text t 0 := by
        unfold Sp.tailT
        rw [decide_eq_true h2, cond_true, texts_at kids' 0 1 t ht]
      rw [e] at hlen ⊢
      have e1 : decide ((1 : Int) < (kids'.length : Int)) = true := decide_eq_true (by omega)
      simp only [List.length_append, List.length_cons, List.length_nil] at hlen
      rw [decide_eq_true h2]
      simp only [cond_true, e1, nthD_ds, n1, cells_d, nth0, nth1, nth2, nth3, nth4, agg_d, hT, optK, must, hrt, fit_self]
      simp (disch := ((try simp only [app_len, List.length_append, List.length_cons, List.length_nil]); omega)) only [room_of, cond_true]
      simp [app_app]
    · have e : Sp.tailT kids' = [] := by unfold Sp.tailT; rw [decide_eq_false h2]; rfl
      rw [decide_eq_false h2, cond_false, e, app_nil]
  | t :: rest, j, q, L, hd, hj, hk', hr => by
    obtain ⟨q, rfl⟩ : ∃ i, q = i + 1 := ⟨q - 1, by omega⟩
    obtain ⟨h1, h2, h3⟩ := at_drop hd
    obtain ⟨nm, x, pl, rfl, _, _⟩ := eqn_inv (hq t (List.mem_of_getElem? h2))
    have et : Sp.eqT (.mk 13 nm [] [x] pl) = 40 :: (nm ++ ([61] ++ (x ++ ([41] ++ [])))) := by simp [Sp.eqT, T.nm, T.nms, Sp.at]
    simp only [List.map_cons, List.flatten_cons, List.append_assoc] at hr ⊢
    obtain ⟨hr1, hr2⟩ := room_app hr
    have ih := inner94 (n := n) (r := r) (kids := kids) (i := i) (k' := k') (pl' := pl') (nm' := nm') (nms' := nms') hq hl hk rest (j + 1) q (Sp.app L (Sp.eqT (.mk 13 nm [] [x] pl))) h3 h1 (by simp at hk'; omega) hr2
    rw [app_app] at ih
    rw [← ih, et]
    rw [et] at hr1
    simp only [I94]
    have nx : [x][(0 : Int).toNat]? = some x := rfl
    have ex : decide ((0 : Int) < (([x].map D.str).length : Int)) = true := rfl
    rw [i94, lt_nat h1, ds_len, lt_nat h1, nn_nat, nthD_ds, Int.toNat_natCast, h2, up_short h1 hl]
    simp only [cond_true, must, optK, Bool.and_self, cells_mk, nth0, nth1, nth2, nth3, nth4, spl9, Bool.true_or, ex, nthD_strs, nx, cells_str, fit_self, hr1]

theorem elem_inv {t : T} (h : Sp.elem t = true) : ∃ qs plf r pl, t = .mk 11 [] (.mk 12 [] qs [] plf :: r) [] pl ∧ (∀ q ∈ qs, Sp.eqn q = true) ∧ (r = [] ∨ ∃ u, r = [u] ∧ Sp.right u = true) := by
  obtain ⟨k, nm, kids, nms, pl⟩ := t
  rcases kids with _ | ⟨f, _ | ⟨u, _ | ⟨c, l⟩⟩⟩ <;> simp [Sp.elem] at h
  · obtain ⟨k', nm', kids', nms', pl'⟩ := f
    simp [Sp.faceB] at h
    obtain ⟨⟨⟨rfl, rfl⟩, rfl⟩, ⟨⟨rfl, rfl⟩, rfl⟩, h⟩ := h
    exact ⟨kids', pl', [], pl, rfl, h, .inl rfl⟩
  · obtain ⟨k', nm', kids', nms', pl'⟩ := f
    simp [Sp.faceB] at h
    obtain ⟨⟨⟨⟨rfl, rfl⟩, rfl⟩, ⟨⟨rfl, rfl⟩, rfl⟩, h⟩, hu⟩ := h
    exact ⟨kids', pl', [u], pl, rfl, h, .inr ⟨u, rfl, hu⟩⟩

theorem elT_eq (k : Int) (nm : List UInt8) (f : T) (r : List T) (nms : List (List UInt8)) (pl : Int) : Sp.elT (.mk k nm (f :: r) nms pl) = Sp.faceT f ++ Sp.tailT (f :: r) := rfl

theorem outer94 {m n : Nat} {kids : List T} (hn : 4294967296 < n) (hl : kids.length < 4294967296) (ho : T.oks kids = true) (hd0 : T.depths kids ≤ m) (he : ∀ t ∈ kids, Sp.elem t = true) :
    ∀ (rest : List T) (j r : Nat) (L : List D), kids.drop j = rest → j ≤ kids.length → rest.length < r → Sp.room L (Sp.boxT (decide (j = 0)) rest ++ [93]) = true →
      O94 m n r L kids j = some (.ret (.tup []), psS true (Sp.app L (Sp.boxT (decide (j = 0)) rest ++ [93])))
  | [], j, r, L, hd, hj, hk', hr => by
    obtain ⟨r, rfl⟩ : ∃ i, r = i + 1 := ⟨r - 1, by omega⟩
    have : kids.length ≤ j := by simpa using hd
    obtain rfl : j = kids.length := by omega
    have e : Sp.boxT (decide (kids.length = 0)) [] ++ [93] = [93] := by cases decide (kids.length = 0) <;> rfl
    rw [e] at hr ⊢
    simp only [O94]
    refine (l94 n m r L kids kids.length).trans ?_
    rw [ge_nat, cond_false]
    simp only [fit_self, must, cond_true, hr]
    rfl
  | t :: rest, j, r, L, hd, hj, hk', hr => by
    obtain ⟨r, rfl⟩ : ∃ i, r = i + 1 := ⟨r - 1, by omega⟩
    obtain ⟨h1, h2, h3⟩ := at_drop hd
    have htm := List.mem_of_getElem? h2
    obtain ⟨qs, plf, r', pl, rfl, hq, hr'⟩ := elem_inv (he t htm)
    obtain ⟨_, o2, _, _, o5⟩ := ok_inv (oks_mem ho htm)
    have hdx : T.depths (.mk 12 [] qs [] plf :: r') ≤ m := by
      have := depth_mem htm
      simp only [T.depth] at this; omega
    have hql : qs.length < 4294967296 := by
      obtain ⟨_, q2, _, _, _⟩ := ok_inv (oks_mem o5 (List.mem_cons_self ..))
      exact shrt_lt q2
    have hkt : (T.mk 12 [] qs [] plf :: r').length = 2 → ∃ t, (T.mk 12 [] qs [] plf :: r')[1]? = some t ∧ Sp.toT m t.d = some t ∧ Sp.right t = true := by
      intro h
      rcases hr' with rfl | ⟨u, rfl, hu⟩
      · simp at h
      · exact ⟨u, rfl, kid_toT hdx o5 (by simp), hu⟩
    have step : ∀ s : List UInt8, Sp.boxT (decide (j = 0)) (.mk 11 [] (.mk 12 [] qs [] plf :: r') [] pl :: rest) ++ [93] = (bif decide (j = 0) then [] else [44, 32]) ++ (bif qs.isEmpty then [49] else []) ++ ((qs.map Sp.eqT).flatten ++ Sp.tailT (.mk 12 [] qs [] plf :: r')) ++ (Sp.boxT (decide (j + 1 = 0)) rest ++ [93]) := by
      intro _
      rw [Sp.boxT, elT_eq, Sp.faceT, kids_mk, decide_eq_false (p := j + 1 = 0) (by omega)]
      simp only [List.append_assoc]
    rw [step []] at hr ⊢
    generalize hP : (bif decide (j = 0) then [] else [44, 32] : List UInt8) = P at hr ⊢
    generalize hQ : (bif qs.isEmpty then [49] else [] : List UInt8) = Q at hr ⊢
    obtain ⟨r1, r2⟩ := room_app hr
    obtain ⟨r3, r4⟩ := room_app r1
    obtain ⟨r5, r6⟩ := room_app r3
    have h_in := inner94 (n := n) (r := r) (kids := kids) (i := (j : Int)) (k' := 11) (pl' := pl) (nm' := []) (nms' := []) hq hql hkt qs 0 n (Sp.app L (P ++ Q)) rfl (Nat.zero_le _) (by omega) r4
    have h_out := outer94 hn hl ho hd0 he rest (j + 1) r (Sp.app L (P ++ Q ++ ((qs.map Sp.eqT).flatten ++ Sp.tailT (.mk 12 [] qs [] plf :: r')))) h3 h1 (by simp at hk'; omega) r2
    rw [app_app, up_short h1 hl] at h_in
    have h := h_in.trans h_out
    rw [app_app] at h
    rw [← h]
    have f0 : (T.mk 12 [] qs [] plf :: r')[(0 : Int).toNat]? = some (T.mk 12 [] qs [] plf) := rfl
    have g0 : decide ((0 : Int) < ((T.ds (T.mk 12 [] qs [] plf :: r')).length : Int)) = true := decide_eq_true (by rw [ds_len]; simp)
    simp only [O94, I94]
    refine (l94 n m r L kids j).trans ?_
    rw [lt_nat h1, ds_len, lt_nat h1, nn_nat, nthD_ds, Int.toNat_natCast, h2]
    simp only [cond_true, must, optK, Bool.and_self, cells_mk, nth0, nth1, nth2, nth3, nth4, spl26, Bool.true_or, nthD_ds, f0, g0, fit_self]
    rw [ds_len, lenZ]
    rcases j with _ | j
    · simp only [decide_true, cond_true] at hP
      subst hP
      rcases qs with _ | ⟨q, qs⟩
      · simp only [List.isEmpty_nil, cond_true] at hQ
        subst hQ
        simp only [List.nil_append] at r6 ⊢
        rw [app_nil] at r6
        simp [r6]
      · simp only [List.isEmpty_cons, cond_false] at hQ
        subst hQ
        simp [app_nil]
    · simp only [Nat.succ_ne_zero, decide_false, cond_false] at hP
      subst hP
      have hj0 : decide ((0 : Int) < ((j + 1 : Nat) : Int)) = true := decide_eq_true (by omega)
      rw [hj0]
      rcases qs with _ | ⟨q, qs⟩
      · simp only [List.isEmpty_nil, cond_true] at hQ
        subst hQ
        simp [r5, r6, app_app]
      · simp only [List.isEmpty_cons, cond_false] at hQ
        subst hQ
        simp [r5]

theorem right_box {nm : List UInt8} {kids : List T} {nms : List (List UInt8)} {pl : Int} (h : Sp.right (.mk 10 nm kids nms pl) = true) : ∀ t ∈ kids, Sp.elem t = true := by
  rcases kids with _ | ⟨a, _ | ⟨b, _ | ⟨c, l⟩⟩⟩ <;> simp [Sp.right, elems_all] at h ⊢ <;> simp_all

theorem lim94 {m : Nat} (hm : knows cx (KT m).S (evLim cx)) {u : Bool} {L : List D} {t : T} (hd : t.depth ≤ m + 1) (ho : t.ok = true) (hi : Sp.isBx t = true) (hr : Sp.room L (Sp.bxT t) = true) :
    evLim cx 94 [.ptr 0 0, .d t.d] (psS u L) = some (.ret (.tup []), psS true (Sp.app L (Sp.bxT t))) := by
  obtain ⟨k, nm, kids, nms, pl⟩ := t
  obtain ⟨h1, h2, h3, h4, h5⟩ := ok_inv ho
  have hkd := depth_inv hd
  simp only [Sp.isBx, Bool.and_eq_true] at hi
  have hk : k = 10 := of_decide_eq_true hi.2
  subst hk
  refine lim_bodyK hm (N := 4294967297) ?_
  refine (g94U _ m L u 10 nm kids nms pl).trans ?_
  simp only [Sp.bxT, List.append_assoc] at hr ⊢
  obtain ⟨r1, r2⟩ := room_app hr
  have h := outer94 (m := m) (n := 4294967297) (kids := kids) (by omega) (shrt_lt h2) h5 hkd (right_box hi.1) kids 0 4294967297 (Sp.app L [91]) rfl (Nat.zero_le _) (by have := shrt_lt h2; omega) r2
  rw [app_app] at h
  simp only [fit_self, must, cond_true, r1, ds_len]
  exact h
end Go.Vai
end

section
namespace Go.Vai
open Go.Proofs

theorem right_k {k : Int} {nm : List UInt8} {kids : List T} {nms : List (List UInt8)} {pl : Int} (h : Sp.right (.mk k nm kids nms pl) = true) :
    k = 1 ∨ ((k = 2 ∨ k = 3) ∧ ∃ a, kids = [a] ∧ Sp.right a = true) ∨ (k = 4 ∨ k = 5) ∨ (k = 6 ∧ ∃ a b, kids = [a, b] ∧ Sp.right a = true ∧ Sp.right b = true) ∨ (k = 7 ∧ ∃ a b, kids = [a, b] ∧ Sp.right a = true ∧ Sp.form b = true) ∨ (k = 8 ∨ k = 9) ∨ k = 10 := by
  rcases kids with _ | ⟨a, _ | ⟨b, _ | ⟨c, l⟩⟩⟩
  · simp [Sp.right] at h
    rcases h.2 with h | h <;> simp [h.1]
  · simp [Sp.right] at h
    rcases h.2 with h | h
    · refine .inr (.inl ⟨h.1.1.1, a, rfl, h.2⟩)
    · simp [h.1.1]
  · simp [Sp.right] at h
    rcases h.2 with ((h | h) | h) | h
    · rcases h.1.1.1.1 with rfl | rfl <;> simp
    · rcases h.1.1.1 with (hk | hk) | hk
      · exact .inr (.inr (.inr (.inl ⟨hk, a, b, rfl, h.1.2, h.2⟩)))
      · simp [hk]
      · simp [hk]
    · exact .inr (.inr (.inr (.inr (.inl ⟨h.1.1.1, a, b, rfl, h.1.2, h.2⟩))))
    · simp [h.1.1.1]
  · simp [Sp.right] at h
    simp [h]

theorem nsS_of {nms : List (List UInt8)} {sep : List UInt8} (h3 : shrt nms = true) (h4 : nms.all shrt = true) (h : (Sp.joinS nms sep).length ≤ 140737488355328) : Sp.nsS (D.sl 1 (nms.map D.str), sep) = some (nms, sep) := by
  unfold Sp.nsS
  simp only [ns_of h3 h4]
  rw [decide_eq_true (by unfold Sp.joinS at h; omega)]
  rfl

theorem K71_knows {m : Nat} (hm : knows cx (KT m).S (evLim cx)) : knows cx (K71 m).S (evLim cx) := by
  have h92 := prK_knows (f := 92) (dec := decT2) (sp := sp92C) hm fun a q s u L ha hs hr => by
    obtain ⟨x, n⟩ := q
    obtain rfl := decT2_some ha
    obtain ⟨t, ht, hs⟩ := optK_some hs
    obtain ⟨hf, hs⟩ := must_some hs
    cases hs
    obtain ⟨rfl, h2⟩ := toC_some ht
    exact lim92 t.depth u L t n (Nat.le_refl _) h2 hf hr
  have h94 := prK_knows (f := 94) (dec := decT1) (sp := sp94 (m + 1)) h92 fun a x s u L ha hs hr => by
    obtain rfl := decT1_some ha
    obtain ⟨t, ht, hs⟩ := optK_some hs
    obtain ⟨hf, hs⟩ := must_some hs
    cases hs
    obtain ⟨rfl, h1, h2⟩ := toT_some ht
    exact lim94 hm h1 h2 hf hr
  have h93 := prK_knows (f := 93) (dec := decTS) (sp := sp93 (m + 1)) h94 fun a q s u L ha hs hr => by
    obtain ⟨x, g⟩ := q
    obtain rfl := decTS_some ha
    obtain ⟨t, ht, hs⟩ := optK_some hs
    obtain ⟨hf, hs⟩ := must_some hs
    cases hs
    obtain ⟨rfl, h1, h2⟩ := toT_some ht
    exact lim93 hm h1 h2 hf hr
  exact prK_knows h93 fun a q s u L ha hs hr => by
    obtain ⟨x, g⟩ := q
    obtain rfl := decTS_some ha
    obtain ⟨t, ht, hs⟩ := optK_some hs
    obtain ⟨hf, hs⟩ := must_some hs
    cases hs
    obtain ⟨rfl, h1, h2⟩ := toT_some ht
    exact lim91 hm h1 h2 hf hr

theorem lim71 {m : Nat} (hm : knows cx (KT m).S (evLim cx)) {u : Bool} {L : List D} {t : T} (hd : t.depth ≤ m + 1) (ho : t.ok = true) (hi : Sp.right t = true) (hr : Sp.room L (Sp.bare t) = true) :
    evLim cx 71 [.ptr 0 0, .d t.d] (psS u L) = some (.ret (.tup []), psS true (Sp.app L (Sp.bare t))) := by
  have hTt := toT_d hd ho
  obtain ⟨k, nm, kids, nms, pl⟩ := t
  obtain ⟨h1, h2, h3, h4, h5⟩ := ok_inv ho
  have hkd := depth_inv hd
  have hT : ∀ t ∈ kids, Sp.toT m t.d = some t := fun t h => kid_toT hkd h5 h
  simp only [T.d] at hTt
  refine lim_bodyK (K71_knows hm) (N := 0) ?_
  rcases right_k hi with rfl | ⟨hk, a, rfl, ha⟩ | hk | ⟨rfl, a, b, rfl, ha, hb⟩ | ⟨rfl, a, b, rfl, ha, hb⟩ | hk | rfl
  · refine (g71_1U 0 m L u nm kids nms pl).trans ?_
    have e : Sp.bare (.mk 1 nm kids nms pl) = nm := by simp [Sp.bare]
    rw [e] at hr ⊢
    simp only [fit_self, must, cond_true, List.append_nil, hr]
    rfl
  · have e0 : decide ((0 : Int) < ((T.ds [a]).length : Int)) = true := by rw [ds_len]; rfl
    have n0 : [a][(0 : Int).toNat]? = some a := rfl
    rcases hk with rfl | rfl
    · have e : Sp.bare (.mk 2 nm [a] nms pl) = [92] ++ Sp.joinS nms [32] ++ [46, 32] ++ Sp.text a 0 := by simp [Sp.bare, ← texts_at [a] 0 0 a rfl]
      rw [e] at hr ⊢
      have hlen := room_le hr
      simp only [List.length_append, List.length_cons, List.length_nil] at hlen
      refine (g71_2U 0 m L u nm [a] nms pl).trans ?_
      simp only [nsS_of h3 h4 (sep := [32]) (by omega), e0, nthD_ds, n0, cells_d, nth0, nth1, nth2, nth3, nth4, agg_d, hT a (by simp), optK, must, cond_true, fit_self, ha]
      simp (disch := ((try simp only [app_len, List.length_append, List.length_cons, List.length_nil]); omega)) only [room_of, cond_true]
      simp [app_app, psS, adV]
    · have e : Sp.bare (.mk 3 nm [a] nms pl) = [60] ++ Sp.joinS nms [32] ++ [62, 32] ++ Sp.text a 0 := by simp [Sp.bare, ← texts_at [a] 0 0 a rfl]
      rw [e] at hr ⊢
      have hlen := room_le hr
      simp only [List.length_append, List.length_cons, List.length_nil] at hlen
      refine (g71_3U 0 m L u nm [a] nms pl).trans ?_
      simp only [nsS_of h3 h4 (sep := [32]) (by omega), e0, nthD_ds, n0, cells_d, nth0, nth1, nth2, nth3, nth4, agg_d, hT a (by simp), optK, must, cond_true, fit_self, ha]
      simp (disch := ((try simp only [app_len, List.length_append, List.length_cons, List.length_nil]); omega)) only [room_of, cond_true]
      simp [app_app, psS, adV]
  · rcases hk with rfl | rfl
    · have hB : Sp.isBd (.mk 4 nm kids nms pl) = true := by unfold Sp.isBd; rw [hi]; rfl
      have e : Sp.bare (.mk 4 nm kids nms pl) = Sp.bdT (.mk 4 nm kids nms pl) [32, 45, 62, 32] := by simp [Sp.bare, Sp.bdT]
      rw [e] at hr ⊢
      refine (g71_4U 0 m L u nm kids nms pl).trans ?_
      simp only [hTt, hB, optK, must, cond_true, fit_self, hr]
      rfl
    · have hB : Sp.isBd (.mk 5 nm kids nms pl) = true := by unfold Sp.isBd; rw [hi]; rfl
      have e : Sp.bare (.mk 5 nm kids nms pl) = Sp.bdT (.mk 5 nm kids nms pl) [32, 42, 32] := by simp [Sp.bare, Sp.bdT]
      rw [e] at hr ⊢
      refine (g71_5U 0 m L u nm kids nms pl).trans ?_
      simp only [hTt, hB, optK, must, cond_true, fit_self, hr]
      rfl
  · have e0 : decide ((0 : Int) < ((T.ds [a, b]).length : Int)) = true := by rw [ds_len]; rfl
    have e1 : decide ((1 : Int) < ((T.ds [a, b]).length : Int)) = true := by rw [ds_len]; rfl
    have n0 : [a, b][(0 : Int).toNat]? = some a := rfl
    have n1 : [a, b][(1 : Int).toNat]? = some b := rfl
    have e : Sp.bare (.mk 6 nm [a, b] nms pl) = Sp.text a 1 ++ [32] ++ Sp.text b 2 := by simp [Sp.bare, ← texts_at [a, b] 1 0 a rfl, ← texts_at [a, b] 2 1 b rfl]
    rw [e] at hr ⊢
    have hlen := room_le hr
    simp only [List.length_append, List.length_cons, List.length_nil] at hlen
    refine (g71_6U 0 m L u nm [a, b] nms pl).trans ?_
    simp only [e0, e1, nthD_ds, n0, n1, cells_d, nth0, nth1, nth2, nth3, nth4, agg_d, hT a (by simp), hT b (by simp), optK, must, cond_true, fit_self, ha, hb]
    simp (disch := ((try simp only [app_len, List.length_append, List.length_cons, List.length_nil]); omega)) only [room_of, cond_true]
    simp [app_app, psS, adV]
  · have e0 : decide ((0 : Int) < ((T.ds [a, b]).length : Int)) = true := by rw [ds_len]; rfl
    have e1 : decide ((1 : Int) < ((T.ds [a, b]).length : Int)) = true := by rw [ds_len]; rfl
    have n0 : [a, b][(0 : Int).toNat]? = some a := rfl
    have n1 : [a, b][(1 : Int).toNat]? = some b := rfl
    have e : Sp.bare (.mk 7 nm [a, b] nms pl) = Sp.text a 1 ++ [32, 64, 32] ++ Sp.fm b 2 := by simp [Sp.bare, ← texts_at [a, b] 1 0 a rfl]
    rw [e] at hr ⊢
    have hlen := room_le hr
    simp only [List.length_append, List.length_cons, List.length_nil] at hlen
    refine (g71_7U 0 m L u nm [a, b] nms pl).trans ?_
    simp only [e0, e1, nthD_ds, n0, n1, cells_d, nth0, nth1, nth2, nth3, nth4, agg_d, hT a (by simp), kid_toC h5 (t := b) (by simp), optK, must, cond_true, fit_self, ha, hb]
    simp (disch := ((try simp only [app_len, List.length_append, List.length_cons, List.length_nil]); omega)) only [room_of, cond_true]
    simp [app_app, psS, adV]
  · rcases hk with rfl | rfl
    · have hB : Sp.isTw (.mk 8 nm kids nms pl) = true := by unfold Sp.isTw; rw [hi]; rfl
      have e : Sp.bare (.mk 8 nm kids nms pl) = Sp.twT (.mk 8 nm kids nms pl) [44, 32] := by simp [Sp.bare, Sp.twT]
      rw [e] at hr ⊢
      refine (g71_8U 0 m L u nm kids nms pl).trans ?_
      simp only [hTt, hB, optK, must, cond_true, fit_self, hr]
      rfl
    · have hB : Sp.isTw (.mk 9 nm kids nms pl) = true := by unfold Sp.isTw; rw [hi]; rfl
      have e : Sp.bare (.mk 9 nm kids nms pl) = Sp.twT (.mk 9 nm kids nms pl) [32, 58, 32] := by simp [Sp.bare, Sp.twT]
      rw [e] at hr ⊢
      refine (g71_9U 0 m L u nm kids nms pl).trans ?_
      simp only [hTt, hB, optK, must, cond_true, fit_self, hr]
      rfl
  · have hB : Sp.isBx (.mk 10 nm kids nms pl) = true := by unfold Sp.isBx; rw [hi]; rfl
    have e : Sp.bare (.mk 10 nm kids nms pl) = Sp.bxT (.mk 10 nm kids nms pl) := by simp [Sp.bare, Sp.bxT]
    rw [e] at hr ⊢
    refine (g71_10U 0 m L u nm kids nms pl).trans ?_
    simp only [hTt, hB, optK, must, cond_true, fit_self, hr]
    rfl

theorem lim68a {m : Nat} (hc : knows cx (clK 70 dec70 ps70D ps70 (fun _ x => sp71 m x) K91).S (evLim cx)) {u b : Bool} {L : List D} {t : T} (hd : t.depth ≤ m) (ho : t.ok = true) (hi : Sp.right t = true) (hr : Sp.room L (Sp.brk b (Sp.bare t)) = true) :
    evLim cx 68 [.ptr 0 0, .d (.bool b), .func 70 [.ptr 2 0, .ptr 3 0]] (psB u L t.d) = some (.ret (.tup []), psB true (Sp.app L (Sp.brk b (Sp.bare t))) t.d) := by
  have hT := toT_d hd ho
  have hlen := room_le hr
  rw [brk_len] at hlen
  refine lim_bodyK hc (N := 0) ?_
  obtain ⟨k, nm, kids, nms, pl⟩ := t
  refine (g68aU 0 m L u k nm kids nms pl b).trans ?_
  simp only [T.d] at hT
  cases b
  · simp only [cond_false] at hlen
    simp only [hT, optK, must, hi, cond_true, cond_false, fit_self]
    simp (disch := ((try simp only [app_len, List.length_append, List.length_cons, List.length_nil]); omega)) only [room_of, cond_true]
    simp [app_app, psB, psS, adV, T.d, Sp.brk]
  · simp only [cond_true] at hlen
    simp only [hT, optK, must, hi, cond_true, cond_false, fit_self]
    simp (disch := ((try simp only [app_len, List.length_append, List.length_cons, List.length_nil]); omega)) only [room_of, cond_true]
    simp [app_app, psB, psS, adV, T.d, Sp.brk]

theorem K70_knows {m : Nat} (hm : knows cx (KT m).S (evLim cx)) : knows cx (K70 (m + 1)).S (evLim cx) := by
  have h71 : knows cx (prK 71 decT1 (sp71 (m + 1)) K91).S (evLim cx) := prK_knows K91_knows fun a x s u L ha hs hr => by
    obtain rfl := decT1_some ha
    obtain ⟨t, ht, hs⟩ := optK_some hs
    obtain ⟨hf, hs⟩ := must_some hs
    cases hs
    obtain ⟨rfl, h1, h2⟩ := toT_some ht
    exact lim71 hm h1 h2 hf hr
  have hc : knows cx (clK 70 dec70 ps70D ps70 (fun _ x => sp71 (m + 1) x) K91).S (evLim cx) := clK_knows K91_knows ps70D_some fun a b x s u L ha hs hr => by
    obtain rfl := dec70_some ha
    obtain ⟨t, ht, hs⟩ := optK_some hs
    obtain ⟨hf, hs⟩ := must_some hs
    cases hs
    obtain ⟨rfl, h1, h2⟩ := toT_some ht
    have hT := toT_d h1 h2
    refine lim_bodyK h71 (N := 0) ?_
    obtain ⟨k, nm, kids, nms, pl⟩ := t
    refine (g70U 0 (m + 1) L u k nm kids nms pl).trans ?_
    simp only [T.d] at hT
    simp only [hT, optK, must, hf, cond_true, fit_self, hr]
    rfl
  exact clK_knows K91_knows psBD_some fun a b x s u L ha hs hr => by
    obtain rfl := dec68_some ha
    obtain ⟨s', hs', hs⟩ := optK_some hs
    cases hs
    obtain ⟨t, ht, hs'⟩ := optK_some hs'
    obtain ⟨hf, hs'⟩ := must_some hs'
    cases hs'
    obtain ⟨rfl, h1, h2⟩ := toT_some ht
    exact lim68a hc h1 h2 hf hr

theorem lim39 : ∀ (m : Nat) (u : Bool) (L : List D) (t : T) (a : Int), t.depth ≤ m → t.ok = true → Sp.right t = true → Sp.room L (Sp.text t a) = true →
    evLim cx 39 [.ptr 0 0, .d t.d, .d (.int .i64 a)] (psS u L) = some (.ret (.tup []), psS true (Sp.app L (Sp.text t a)))
  | 0, _, _, .mk .., _, h, _, _, _ => by simp [T.depth] at h
  | m + 1, u, L, t, a, hd, ho, hi, hr => by
    have hm : knows cx (KT m).S (evLim cx) := prK_knows K91_knows fun a q s u L ha hs hr => by
      obtain ⟨x, n⟩ := q
      obtain rfl := decT2_some ha
      obtain ⟨t, ht, hs⟩ := optK_some hs
      obtain ⟨hf, hs⟩ := must_some hs
      cases hs
      obtain ⟨rfl, h1, h2⟩ := toT_some ht
      exact lim39 m u L t n h1 h2 hf hr
    have hT := toT_d hd ho
    have hC := toC_d ho
    refine lim_bodyK (K70_knows hm) (N := 0) ?_
    obtain ⟨k, nm, kids, nms, pl⟩ := t
    refine (g39U 0 (m + 1) L u k nm kids nms pl a).trans ?_
    simp only [T.d] at hT hC
    unfold Sp.text at hr ⊢
    simp only [hT, hC, optK, must, hi, cond_true, fit_self, hr]
    rfl
end Go.Vai
end

section
namespace Go.Vai
open Go.Proofs

/-- How many parts and bytes. -/
def Sp.lens : List (List UInt8) → Nat | [] => 0 | x :: l => x.length + 1 + Sp.lens l
mutual
def Sp.bulk : T → Nat
  | .mk _ nm kids nms _ => 1 + nm.length + Sp.lens nms + Sp.bulks kids
def Sp.bulks : List T → Nat
  | [] => 0
  | t :: l => Sp.bulk t + Sp.bulks l
end
theorem brk_le (b : Bool) (s : List UInt8) : (Sp.brk b s).length ≤ s.length + 2 := by rw [brk_len]; cases b <;> simp
theorem at_len : ∀ (l : List (List UInt8)) (i : Nat), (Sp.at l i).length ≤ Sp.lens l
  | [], i => by simp [Sp.at, Sp.lens]
  | x :: l, 0 => by simp [Sp.at, Sp.lens]; omega
  | x :: l, i + 1 => by have := at_len l i; simp [Sp.at, Sp.lens] at this ⊢; omega
theorem joinS_nil (sep : List UInt8) : Sp.joinS [] sep = [] := by simp [Sp.joinS, Lib.join, List.intercalate]
theorem joinS_one (x sep : List UInt8) : Sp.joinS [x] sep = x := by simp [Sp.joinS, Lib.join, List.intercalate]
theorem joinS_cons (x y sep : List UInt8) (l : List (List UInt8)) : Sp.joinS (x :: y :: l) sep = x ++ sep ++ Sp.joinS (y :: l) sep := by simp [Sp.joinS, Lib.join, List.intercalate, List.intersperse]
theorem joinS_len : ∀ (l : List (List UInt8)), (Sp.joinS l [32]).length ≤ Sp.lens l
  | [] => by simp [joinS_nil]
  | [x] => by simp [joinS_one, Sp.lens]
  | x :: y :: l => by
    have := joinS_len (y :: l)
    rw [joinS_cons, Sp.lens]
    simp only [List.length_append, List.length_cons, List.length_nil]
    omega

mutual
theorem fmb_len : ∀ t : T, (Sp.fmb t).length + 2 ≤ 12 * Sp.bulk t
  | .mk k nm kids nms pl => by
    have h2 := fms_len2 kids
    simp only [Sp.fmb, Sp.bulk]
    cases decide (k = 16)
    · cases decide (k = 15)
      · cases decide (k = 14)
        · simp only [cond_false]; omega
        · have := h2 0 1
          simp only [cond_true, cond_false, List.length_append, List.length_cons, List.length_nil]; omega
      · have := h2 1 2
        simp only [cond_true, cond_false, List.length_append, List.length_cons, List.length_nil]; omega
    · have := h2 2 2
      simp only [cond_true, List.length_append, List.length_cons, List.length_nil]; omega
theorem fms_len2 : ∀ (l : List T) (a b : Int), (Sp.at (Sp.fms l a) 0).length + (Sp.at (Sp.fms l b) 1).length ≤ 12 * Sp.bulks l
  | [], a, b => by simp [Sp.fms, Sp.at, Sp.bulks]
  | [t], a, b => by
    have := fmb_len t
    have := brk_le (decide (Sp.rnk t.k < a)) (Sp.fmb t)
    simp [Sp.fms, Sp.at, Sp.bulks]; omega
  | t :: u :: l, a, b => by
    have := fmb_len t
    have := fmb_len u
    have := brk_le (decide (Sp.rnk t.k < a)) (Sp.fmb t)
    have := brk_le (decide (Sp.rnk u.k < b)) (Sp.fmb u)
    simp [Sp.fms, Sp.at, Sp.bulks]; omega
end
theorem fm_len (t : T) (a : Int) : (Sp.fm t a).length ≤ 12 * Sp.bulk t := by
  have := fmb_len t
  have := brk_le (decide (Sp.rnk t.k < a)) (Sp.fmb t)
  unfold Sp.fm; omega

theorem eqT_len (t : T) : (Sp.eqT t).length ≤ 12 * Sp.bulk t := by
  obtain ⟨k, nm, kids, nms, pl⟩ := t
  have := at_len nms 0
  simp only [Sp.eqT, nm_mk, nms_mk, Sp.bulk, List.length_append, List.length_cons, List.length_nil]
  omega
theorem eqTs_len : ∀ l : List T, ((l.map Sp.eqT).flatten).length ≤ 12 * Sp.bulks l
  | [] => by simp
  | t :: l => by
    have := eqT_len t
    have := eqTs_len l
    simp only [List.map_cons, List.flatten_cons, List.length_append, Sp.bulks]; omega
theorem faceT_len (t : T) : (Sp.faceT t).length ≤ 12 * Sp.bulk t := by
  obtain ⟨k, nm, kids, nms, pl⟩ := t
  have := eqTs_len kids
  simp only [Sp.faceT, kids_mk, Sp.bulk, List.length_append]
  cases kids.isEmpty <;> simp only [cond_true, cond_false, List.length_cons, List.length_nil] <;> omega

mutual
theorem bare_len : ∀ t : T, (Sp.bare t).length + 2 ≤ 12 * Sp.bulk t
  | .mk k nm kids nms pl => by
    have h2 := texts_len2 kids
    have hj := joinS_len nms
    have ha := at_len nms 0
    have hb := boxT_len kids
    simp only [Sp.bare, Sp.bulk]
    cases decide (k = 1)
    rotate_left
    · simp only [cond_true]; omega
    cases decide (k = 2)
    rotate_left
    · have := h2 0 0; simp only [cond_true, cond_false, List.length_append, List.length_cons, List.length_nil]; omega
    cases decide (k = 3)
    rotate_left
    · have := h2 0 0; simp only [cond_true, cond_false, List.length_append, List.length_cons, List.length_nil]; omega
    have h4 : ((bif decide (nms.length = 1) then [40] ++ Sp.at nms 0 ++ [32, 58, 32] ++ Sp.at (Sp.texts kids 0) 0 ++ [41] else Sp.brk (Sp.annN kids) (Sp.at (Sp.texts kids 1) 0)) ++ [32, 45, 62, 32] ++ Sp.at (Sp.texts kids 0) 1).length ≤ 9 + Sp.lens nms + 12 * Sp.bulks kids := by
      have := brk_le (Sp.annN kids) (Sp.at (Sp.texts kids 1) 0)
      have := h2 0 0
      have := h2 1 0
      cases decide (nms.length = 1) <;> simp only [cond_true, cond_false, List.length_append, List.length_cons, List.length_nil] <;> omega
    have h5 : ((bif decide (nms.length = 1) then [40] ++ Sp.at nms 0 ++ [32, 58, 32] ++ Sp.at (Sp.texts kids 0) 0 ++ [41] else Sp.brk (Sp.annN kids) (Sp.at (Sp.texts kids 1) 0)) ++ [32, 42, 32] ++ Sp.at (Sp.texts kids 0) 1).length ≤ 9 + Sp.lens nms + 12 * Sp.bulks kids := by
      have := brk_le (Sp.annN kids) (Sp.at (Sp.texts kids 1) 0)
      have := h2 0 0
      have := h2 1 0
      cases decide (nms.length = 1) <;> simp only [cond_true, cond_false, List.length_append, List.length_cons, List.length_nil] <;> omega
    cases decide (k = 4)
    rotate_left
    · simp only [cond_true, cond_false]; omega
    cases decide (k = 5)
    rotate_left
    · simp only [cond_true, cond_false]; omega
    cases decide (k = 6)
    rotate_left
    · have := h2 1 2; simp only [cond_true, cond_false, List.length_append, List.length_cons, List.length_nil]; omega
    cases decide (k = 7)
    rotate_left
    · have := h2 1 1
      simp only [cond_true, cond_false]
      rcases kids with _ | ⟨a, _ | ⟨b, l⟩⟩
      · simp [Sp.texts, Sp.at]; omega
      · simp only [List.length_append, List.length_cons, List.length_nil] at this ⊢; omega
      · have h8 := fm_len b 2
        have h9 := texts_len1 a 1
        have e : Sp.at (Sp.texts (a :: b :: l) 1) 0 = Sp.brk (decide (Sp.cls a.k < 1)) (Sp.bare a) := rfl
        simp only [List.length_append, List.length_cons, List.length_nil, Sp.bulks, e]
        omega
    cases decide (k = 8)
    rotate_left
    · have := h2 0 0; simp only [cond_true, cond_false, List.length_append, List.length_cons, List.length_nil]; omega
    cases decide (k = 9)
    rotate_left
    · have := h2 0 0; simp only [cond_true, cond_false, List.length_append, List.length_cons, List.length_nil]; omega
    simp only [cond_false, List.length_append, List.length_cons, List.length_nil]
    have := hb true
    omega
theorem texts_len1 : ∀ (t : T) (a : Int), (Sp.brk (decide (Sp.cls t.k < a)) (Sp.bare t)).length ≤ 12 * Sp.bulk t
  | t, a => by
    have := bare_len t
    have := brk_le (decide (Sp.cls t.k < a)) (Sp.bare t)
    omega
theorem texts_len2 : ∀ (l : List T) (a b : Int), (Sp.at (Sp.texts l a) 0).length + (Sp.at (Sp.texts l b) 1).length ≤ 12 * Sp.bulks l
  | [], a, b => by simp [Sp.texts, Sp.at, Sp.bulks]
  | [t], a, b => by
    have := texts_len1 t a
    simp [Sp.texts, Sp.at, Sp.bulks]; omega
  | t :: u :: l, a, b => by
    have := texts_len1 t a
    have := texts_len1 u b
    simp [Sp.texts, Sp.at, Sp.bulks]; omega
theorem elT_len : ∀ t : T, (Sp.elT t).length + 2 ≤ 12 * Sp.bulk t
  | .mk k nm [] nms pl => by simp [Sp.elT, Sp.bulk]; omega
  | .mk k nm [f] nms pl => by
    have := faceT_len f
    simp [Sp.elT, Sp.bulk, Sp.bulks]; omega
  | .mk k nm (f :: u :: l) nms pl => by
    have := faceT_len f
    have h1 := texts_len1 u 0
    have e : Sp.at (Sp.texts (f :: u :: l) 0) 1 = Sp.brk (decide (Sp.cls u.k < 0)) (Sp.bare u) := rfl
    simp only [Sp.elT, e, Sp.bulk, Sp.bulks]
    cases decide ((f :: u :: l).length = 2) <;> simp only [cond_true, cond_false, List.length_append, List.length_cons, List.length_nil] <;> omega
theorem boxT_len : ∀ (l : List T) (b : Bool), (Sp.boxT b l).length ≤ 12 * Sp.bulks l
  | [], b => by simp [Sp.boxT]
  | t :: l, b => by
    have := elT_len t
    have := boxT_len l false
    simp only [Sp.boxT, Sp.bulks]
    cases b <;> simp only [cond_true, cond_false, List.length_append, List.length_cons, List.length_nil] <;> omega
end
theorem text_len (t : T) (a : Int) : (Sp.text t a).length ≤ 12 * Sp.bulk t := texts_len1 t a

/-- What of a join comes from one place on. -/
def Sp.joinR (b : List UInt8) : Bool → List (List UInt8) → List UInt8
  | _, [] => []
  | first, x :: l => (bif first then [] else b) ++ x ++ Sp.joinR b false l
def decDI : List V → Option (D × Int) | [.d x, .d (.int .i64 a)] => some (x, a) | _ => none
theorem decDI_some {a : List V} {x : D} {n : Int} (h : decDI a = some (x, n)) : a = [.d x, .d (.int .i64 n)] := by
  unfold decDI at h
  split at h
  · cases h; rfl
  · cases h
end Go.Vai
end

section
namespace Go.Vai
open Go.Proofs

end Go.Vai
end

section
namespace Go.Vai
open Go.Proofs

end Go.Vai
end

section
namespace Go.Vai
open Go.Proofs

end Go.Vai
end

section
namespace Go.Vai
open Go.Proofs

def Sp.bytes (L : List D) : Option (List UInt8) := bytesX L
theorem bytes_app (s : List UInt8) : Sp.bytes (Sp.app [] s) = some s := by
  show bytesX ([] ++ s.map fun b => D.int .u8 b.toNat) = some s
  rw [List.nil_append]
  exact bytesX_map s
theorem lim72 (u : Bool) (L : List D) (s : List UInt8) (h : Sp.bytes L = some s) (hl : L.length ≤ 65536) : evLim cx 72 [.ptr 0 0] (psS u L) = some (.ret (.d (.str s)), putA (psS u L) 1 (.tok (L.length + 1))) := by
  refine lim_of (n := 1) ?_
  have e0 : cx.nat 72 [.ptr 0 0] (psS u L) = natStr [.ptr 0 0] (psS u L) := by kernel_rfl
  have e : natStr [.ptr 0 0] (psS u L) = some (.ret (.d (.str s)), putA (psS u L) 1 (.tok (L.length + 1))) := by
    have e1 : bytesX L = some s := h
    have e2 : natStr [.ptr 0 0] (psS u L) = must (Nat.beq 6291457 6291457 && decide (L.length = L.length) && decide (L.length ≤ 4294967296)) (optK (bytesX L) fun s => some (.ret (.d (.str s)), putA (psS u L) 1 (.tok (L.length + 1)))) := rfl
    rw [e2, e1, decide_eq_true rfl, decide_eq_true (by omega)]
    rfl
  show evWith cx (evFun cx 0) 0 72 _ _ = _
  unfold evWith
  rw [e0, e]

def K72 : CK R1 := more 72 (fun a σ => match decO a, psD σ with | some _, some p => some (p, σ) | _, _ => none)
    (fun K q => match q with | ((L, n), σ) => optK (Sp.bytes L) fun s => must (Sp.fit n L) (must (decide (n ≤ 65536)) (K (.ret (.d (.str s))) (putA σ 1 (.tok (n + 1))))))
    (fun K q => by
      obtain ⟨⟨L, n⟩, σ⟩ := q
      simp only [must]
      rw [optP_optK]
      congr 1
      funext s
      simp only [optP_cond]
      rfl) (CK.plain none1)
theorem K72_knows : knows cx K72.S (evLim cx) := more_knows none1K_knows fun a σ q r hd h => by
  obtain ⟨⟨L, n⟩, τ⟩ := q
  simp only at hd h
  split at hd
  · rename_i p ha hp
    cases hd
    obtain ⟨s, hs, h⟩ := optK_some h
    obtain ⟨h1, h⟩ := must_some h
    obtain ⟨h2, h⟩ := must_some h
    cases h
    obtain rfl := decO_some ha
    obtain ⟨u, rfl⟩ := psD_some hp h1
    have hn : n = L.length := of_decide_eq_true h1
    have := of_decide_eq_true h2
    rw [hn]
    exact lim72 u L s hs (by omega)
  · cases hd

theorem g40 (n : Nat) (L : List D) : evBody cx K72 n 40 [.ptr 0 0] (psS true L) = optK (Sp.bytes L) fun s => must (Sp.fit L.length L) (must (decide (L.length ≤ 65536)) (some (Out.ret (V.tup [V.d (D.str s), V.d (D.int IntKind.i64 (0 : Int))]), [(0, Ob.val 76546051 (V.agg [V.ptr 0 0, V.sl 6291457 L 1, V.d (D.bool false)])), (1, Ob.tok (L.length + 1))]))) := by kernel_rfl

theorem g40f (n : Nat) (L : List D) : evBody cx K72 n 40 [.ptr 0 0] (psS false L) = optK (Sp.bytes L) fun s => must (Sp.fit L.length L) (must (decide (L.length ≤ 65536)) (some (Out.ret (V.tup [V.d (D.str s), V.d (D.int IntKind.i64 (0 : Int))]), [(0, Ob.val 76546051 (V.agg [V.d D.nilptr, V.sl 6291457 L 1, V.d (D.bool false)])), (1, Ob.tok (L.length + 1))]))) := by kernel_rfl

theorem lim40 (u : Bool) (L : List D) (s : List UInt8) (h : Sp.bytes L = some s) (hl : L.length ≤ 65536) : evLim cx 40 [.ptr 0 0] (psS u L) = some (.ret (.tup [.d (.str s), .d (.int .i64 0)]), putA (psS u L) 1 (.tok (L.length + 1))) := by
  refine lim_bodyK K72_knows (N := 0) ?_
  cases u
  · rw [g40f, h]
    simp only [optK, must, fit_self, cond_true]
    rw [decide_eq_true hl]
    rfl
  · rw [g40, h]
    simp only [optK, must, fit_self, cond_true]
    rw [decide_eq_true hl]
    rfl
def mkE (p : List UInt8 × Int) : V := .tup [.d (.str p.1), .d (.int .i64 p.2)]
def Sp.done (s : List UInt8) : List UInt8 × Int := bif decide (65536 < s.length) then ([], 3) else (s, 0)
noncomputable def sp39C : D × Int → Option (List UInt8) | (x, a) => optK (Sp.toC x) fun t => must (Sp.right t) (some (Sp.text t a))
/-- What show.Term and show.File call. -/
noncomputable def K18 : CK R1 := more 40 (fun a σ => match decO a, psD σ with | some _, some p => some (p, σ) | _, _ => none)
    (fun K q => match q with | ((L, n), σ) => optK (Sp.bytes L) fun s => must (Sp.fit n L) (must (decide (n ≤ 65536)) (K (.ret (.tup [.d (.str s), .d (.int .i64 0)])) (putA σ 1 (.tok (n + 1))))))
    (fun K q => by
      obtain ⟨⟨L, n⟩, σ⟩ := q
      simp only [must]
      rw [optP_optK]
      congr 1
      funext s
      simp only [optP_cond]
      rfl) (prK 39 decT2 sp39C (prK 38 decPut catS (pureK 37 decD Sp.toC (fun t => mkB (Sp.right t)) (pureK 36 decStr some (fun s => mkB (Sp.named s)) (CK.plain none1)))))
theorem K18_knows : knows cx K18.S (evLim cx) := by
  have h36 := pureK_knows (f := 36) (dec := decStr) (sp := some) (mk := fun s => mkB (Sp.named s)) none1K_knows fun a q b hd h hb => by
    cases hb; obtain rfl := decStr_some h; exact lim36 q (of_decide_eq_true hd)
  have h37 := pureK_knows (f := 37) (dec := decD) (sp := Sp.toC) (mk := fun t => mkB (Sp.right t)) h36 fun a q b hd h hb => by
    obtain rfl := decD_some h
    obtain ⟨rfl, h1⟩ := toC_some hb
    exact lim37 b.depth b (Nat.le_refl _) h1
  have h38 := prK_knows (f := 38) (dec := decPut) (sp := catS) h37 fun a q s u L h hs hr => by
    obtain ⟨rfl, h1, h2⟩ := decPut_some h
    obtain ⟨m, rfl, rfl⟩ := catS_some hs
    exact lim38 u L m (by simpa using h2) (by intro e; rw [e] at h1; exact h1 rfl) hr
  have h39 := prK_knows (f := 39) (dec := decT2) (sp := sp39C) h38 fun a q s u L ha hs hr => by
    obtain ⟨x, n⟩ := q
    obtain rfl := decT2_some ha
    obtain ⟨t, ht, hs⟩ := optK_some hs
    obtain ⟨hf, hs⟩ := must_some hs
    cases hs
    obtain ⟨rfl, h2⟩ := toC_some ht
    exact lim39 t.depth u L t n (Nat.le_refl _) h2 hf hr
  exact more_knows h39 fun a σ q r hd h => by
    obtain ⟨⟨L, n⟩, τ⟩ := q
    simp only at hd h
    split at hd
    · rename_i p ha hp
      cases hd
      obtain ⟨s, hs, h⟩ := optK_some h
      obtain ⟨h1, h⟩ := must_some h
      obtain ⟨h2, h⟩ := must_some h
      cases h
      obtain rfl := decO_some ha
      obtain ⟨u, rfl⟩ := psD_some hp h1
      have hn : n = L.length := of_decide_eq_true h1
      have := of_decide_eq_true h2
      rw [hn]
      exact lim40 u L s hs (by omega)
    · cases hd
end Go.Vai
end

section
namespace Go.Vai
open Go.Proofs

def Sp.nmsB (a : Int) : List (List UInt8) → Int → Option Int
  | [], b => some b
  | x :: l, b => bif decide (b ≤ a) then (bif decide (a < (x.length : Int)) then none else Sp.nmsB a l (b + 1 + x.length)) else some b
mutual
def Sp.blk : T → Int → Int
  | .mk _ nm kids nms _, a => bif decide (a < (nm.length : Int)) || decide (a < (nms.length : Int)) then a + 1 else match Sp.nmsB a nms (1 + nm.length) with | some b => Sp.kidB kids a b | none => a + 1
def Sp.kidB : List T → Int → Int → Int
  | [], _, b => b
  | t :: l, a, b => bif decide (b ≤ a) then Sp.kidB l a (b + Sp.blk t (a - b)) else b
end
def spB (m : Nat) : D × Int → Option (T × Int) | (x, a) => optK (Sp.toT m x) fun t => must (decide (0 ≤ a) && decide (a ≤ 1048576)) (some (t, a))
noncomputable def KB (m : Nat) : CK R1 := pureK 33 decDI (spB m) (fun q => mkI (Sp.blk q.1 q.2)) (CK.plain none1)

theorem nmsB_some {a : Int} : ∀ {l : List (List UInt8)} {b c : Int}, Sp.nmsB a l b = some c → 0 ≤ b → b ≤ 2 * a + 1 → 0 ≤ a → b ≤ c ∧ c ≤ 2 * a + 1 ∧ (c ≤ a → c = b + Sp.lens l)
  | [], b, c, h, h0, h1, ha => by cases h; exact ⟨Int.le_refl _, h1, fun _ => by simp [Sp.lens]⟩
  | x :: l, b, c, h, h0, h1, ha => by
    unfold Sp.nmsB at h
    by_cases hb : b ≤ a
    · rw [decide_eq_true hb, cond_true] at h
      by_cases hx : a < (x.length : Int)
      · rw [decide_eq_true hx] at h; cases h
      · rw [decide_eq_false hx, cond_false] at h
        obtain ⟨h2, h3, h4⟩ := nmsB_some h (by omega) (by omega) ha
        refine ⟨by omega, h3, fun hc => ?_⟩
        have := h4 hc
        simp only [Sp.lens]
        omega
    · rw [decide_eq_false hb, cond_false] at h
      cases h
      exact ⟨Int.le_refl _, h1, fun hc => by omega⟩

mutual
theorem blk_spec : ∀ (t : T) (a : Int), 0 ≤ a → 0 ≤ Sp.blk t a ∧ Sp.blk t a ≤ 2 * a + 2 ∧ (Sp.blk t a ≤ a → Sp.blk t a = Sp.bulk t)
  | .mk k nm kids nms pl, a, ha => by
    unfold Sp.blk
    cases hc : (decide (a < (nm.length : Int)) || decide (a < (nms.length : Int)))
    · simp only [Bool.or_eq_false_iff, decide_eq_false_iff_not] at hc
      rw [cond_false]
      cases hn : Sp.nmsB a nms (1 + nm.length) with
      | none => simp only; exact ⟨by omega, by omega, fun h => by omega⟩
      | some b =>
        obtain ⟨h2, h3, h4⟩ := nmsB_some hn (by omega) (by omega) ha
        obtain ⟨g1, g2, g3⟩ := kidB_spec kids a b ha (by omega) (by omega)
        simp only
        refine ⟨by omega, g2, fun h => ?_⟩
        have := h4 (by omega)
        have := g3 h
        simp only [Sp.bulk]
        omega
    · rw [cond_true]
      exact ⟨by omega, by omega, fun h => by omega⟩
theorem kidB_spec : ∀ (l : List T) (a b : Int), 0 ≤ a → 1 ≤ b → b ≤ 2 * a + 2 → b ≤ Sp.kidB l a b ∧ Sp.kidB l a b ≤ 2 * a + 2 ∧ (Sp.kidB l a b ≤ a → Sp.kidB l a b = b + Sp.bulks l)
  | [], a, b, ha, hb, hb2 => by unfold Sp.kidB; exact ⟨Int.le_refl _, hb2, fun _ => by simp [Sp.bulks]⟩
  | t :: l, a, b, ha, hb, hb2 => by
    unfold Sp.kidB
    by_cases h : b ≤ a
    · rw [decide_eq_true h, cond_true]
      obtain ⟨h1, h2, h3⟩ := blk_spec t (a - b) (by omega)
      obtain ⟨g1, g2, g3⟩ := kidB_spec l a (b + Sp.blk t (a - b)) ha (by omega) (by omega)
      refine ⟨by omega, g2, fun hc => ?_⟩
      have := g3 hc
      have := h3 (by omega)
      simp only [Sp.bulks]
      omega
    · rw [decide_eq_false h, cond_false]
      exact ⟨Int.le_refl _, hb2, fun hc => by omega⟩
end
end Go.Vai
end

section
namespace Go.Vai
open Go.Proofs

theorem g33 (n m : Nat) (k : Int) (nm : List UInt8) (kids : List T) (nms : List (List UInt8)) (pl a : Int) : evBody cx (KB m) n 33 [.d (.agg [.int .i64 k, .str nm, .sl 5 (T.ds kids), .sl 1 (nms.map .str), .int .i64 pl]), .d (.int .i64 a)] [] = bif decide (a < (↑nm.length : Int)) then some (Out.ret (V.d (D.int IntKind.i64 (IntKind.i64.wrap (a + (1 : Int))))), []) else bif decide (a < (↑(List.map D.str nms).length : Int)) then some (Out.ret (V.d (D.int IntKind.i64 (IntKind.i64.wrap (a + (1 : Int))))), []) else LP cx (KB m) n 33 0 5 n [(1, V.d (D.int IntKind.i64 a)), (2, V.ptr 2 0), (5, V.d (D.int IntKind.i64 (IntKind.i64.wrap ((1 : Int) + (↑nm.length : Int))))), (6, V.d (D.int IntKind.i64 (0 : Int)))] [(2, Ob.val 5 (V.d (D.agg [D.int IntKind.i64 k, D.str nm, D.sl 5 (T.ds kids), D.sl 1 (List.map D.str nms), D.int IntKind.i64 pl])))] (AK cx (KB m) n 33 0 5 (EK cx 33 0)) := by kernel_rfl

theorem l33a (n m r : Nat) (k : Int) (nm : List UInt8) (kids : List T) (nms : List (List UInt8)) (pl a b i : Int) : LP cx (KB m) n 33 0 5 (r + 1) [(1, V.d (D.int IntKind.i64 a)), (2, V.ptr 2 0), (5, V.d (D.int IntKind.i64 b)), (6, V.d (D.int IntKind.i64 i))] [(2, Ob.val 5 (V.d (D.agg [D.int IntKind.i64 k, D.str nm, D.sl 5 (T.ds kids), D.sl 1 (List.map D.str nms), D.int IntKind.i64 pl])))] (AK cx (KB m) n 33 0 5 (EK cx 33 0)) = bif decide (i < (↑(List.map D.str nms).length : Int)) then bif decide (b ≤ a) then must (decide (0 ≤ i) && decide (i < (↑(List.map D.str nms).length : Int))) (nthD (List.map D.str nms) i.toNat fun y => nthD y.cells 0 fun c => match c with
 | D.str s => bif decide (a < (↑s.length : Int)) then some (Out.ret (V.d (D.int IntKind.i64 (IntKind.i64.wrap (a + (1 : Int))))), []) else must (decide (0 ≤ i) && decide (i < (↑(List.map D.str nms).length : Int))) (nthD (List.map D.str nms) i.toNat fun y => nthD y.cells 0 fun c => match c with
  | D.str s => LP cx (KB m) n 33 0 5 r [(1, V.d (D.int IntKind.i64 a)), (2, V.ptr 2 0), (5, V.d (D.int IntKind.i64 (IntKind.i64.wrap (IntKind.i64.wrap (b + (1 : Int)) + (↑s.length : Int))))), (6, V.d (D.int IntKind.i64 (IntKind.i64.wrap (i + (1 : Int)))))] [(2, Ob.val 5 (V.d (D.agg [D.int IntKind.i64 k, D.str nm, D.sl 5 (T.ds kids), D.sl 1 (List.map D.str nms), D.int IntKind.i64 pl])))] (AK cx (KB m) n 33 0 5 (EK cx 33 0))
  | x => none)
 | x => none) else LP cx (KB m) n 33 0 11 n [(1, V.d (D.int IntKind.i64 a)), (2, V.ptr 2 0), (5, V.d (D.int IntKind.i64 b)), (7, V.d (D.int IntKind.i64 (0 : Int)))] [(2, Ob.val 5 (V.d (D.agg [D.int IntKind.i64 k, D.str nm, D.sl 5 (T.ds kids), D.sl 1 (List.map D.str nms), D.int IntKind.i64 pl])))] (AK cx (KB m) n 33 0 11 (EK cx 33 0)) else LP cx (KB m) n 33 0 11 n [(1, V.d (D.int IntKind.i64 a)), (2, V.ptr 2 0), (5, V.d (D.int IntKind.i64 b)), (7, V.d (D.int IntKind.i64 (0 : Int)))] [(2, Ob.val 5 (V.d (D.agg [D.int IntKind.i64 k, D.str nm, D.sl 5 (T.ds kids), D.sl 1 (List.map D.str nms), D.int IntKind.i64 pl])))] (AK cx (KB m) n 33 0 11 (EK cx 33 0)) := by kernel_rfl

theorem l33b (n m r : Nat) (k : Int) (nm : List UInt8) (kids : List T) (nms : List (List UInt8)) (pl a b i : Int) : LP cx (KB m) n 33 0 11 (r + 1) [(1, V.d (D.int IntKind.i64 a)), (2, V.ptr 2 0), (5, V.d (D.int IntKind.i64 b)), (7, V.d (D.int IntKind.i64 i))] [(2, Ob.val 5 (V.d (D.agg [D.int IntKind.i64 k, D.str nm, D.sl 5 (T.ds kids), D.sl 1 (List.map D.str nms), D.int IntKind.i64 pl])))] (AK cx (KB m) n 33 0 11 (EK cx 33 0)) = bif decide (i < (↑(T.ds kids).length : Int)) then bif decide (b ≤ a) then must (decide (0 ≤ i) && decide (i < (↑(T.ds kids).length : Int))) (nthD (T.ds kids) i.toNat fun y => nthD y.cells 0 fun c => nthD y.cells 1 fun c_1 => nthD y.cells 2 fun c_2 => nthD y.cells 3 fun c_3 => nthD y.cells 4 fun c_4 => optK (optK (Sp.toT m (D.agg [c, c_1, c_2, c_3, c_4])) fun t => must (decide (0 ≤ IntKind.i64.wrap (a - b)) && decide (IntKind.i64.wrap (a - b) ≤ 1048576)) (some (t, IntKind.i64.wrap (a - b)))) fun b_1 => LP cx (KB m) n 33 0 11 r [(1, V.d (D.int IntKind.i64 a)), (2, V.ptr 2 0), (5, V.d (D.int IntKind.i64 (IntKind.i64.wrap (b + Sp.blk b_1.fst b_1.snd)))), (7, V.d (D.int IntKind.i64 (IntKind.i64.wrap (i + (1 : Int)))))] [(2, Ob.val 5 (V.d (D.agg [D.int IntKind.i64 k, D.str nm, D.sl 5 (T.ds kids), D.sl 1 (List.map D.str nms), D.int IntKind.i64 pl])))] (AK cx (KB m) n 33 0 11 (EK cx 33 0))) else some (Out.ret (V.d (D.int IntKind.i64 b)), []) else some (Out.ret (V.d (D.int IntKind.i64 b)), []) := by kernel_rfl

theorem g16 (n m : Nat) (l : List T) : evBody cx (KB m) n 16 [.d (.sl 5 (T.ds l))] [] = optK (optK (Sp.toT m (D.agg [D.int IntKind.i64 (0 : Int), D.str [], D.sl 5 (T.ds l), D.sl 1 [], D.int IntKind.i64 (0 : Int)])) fun t => some (t, (1500 : Int))) fun b => some (Out.ret (V.d (D.bool (decide ((1500 : Int) < Sp.blk b.fst b.snd)))), []) := by kernel_rfl

theorem optS {α β : Type} {x : α} {K : α → Option β} : optK (some x) K = K x := by unfold optK; simp

theorem wrapS {x : Int} (h0 : -4294967296 ≤ x) (h1 : x ≤ 17179869184) : IntKind.i64.wrap x = x := IntWalk.i64_in _ (by omega)

section
variable {n m : Nat} {k : Int} {nm : List UInt8} {kids : List T} {nms : List (List UInt8)} {pl a : Int}

theorem loop33b (ha : 0 ≤ a) (ha2 : a ≤ 1048576) (hl : kids.length < 4294967296) (hT : ∀ t ∈ kids, Sp.toT m t.d = some t) : ∀ (rest : List T) (j r : Nat) (b : Int), kids.drop j = rest → j ≤ kids.length → rest.length < r → 1 ≤ b → b ≤ 2 * a + 2 →
    LP cx (KB m) n 33 0 11 r [(1, V.d (D.int IntKind.i64 a)), (2, V.ptr 2 0), (5, V.d (D.int IntKind.i64 b)), (7, V.d (D.int IntKind.i64 j))] [(2, Ob.val 5 (V.d (D.agg [D.int IntKind.i64 k, D.str nm, D.sl 5 (T.ds kids), D.sl 1 (List.map D.str nms), D.int IntKind.i64 pl])))] (AK cx (KB m) n 33 0 11 (EK cx 33 0)) = some (.ret (mkI (Sp.kidB rest a b)), [])
  | [], j, r, b, hd, hj, hk', hb, hb2 => by
    obtain ⟨r, rfl⟩ : ∃ i, r = i + 1 := ⟨r - 1, by omega⟩
    have : kids.length ≤ j := by simpa using hd
    obtain rfl : j = kids.length := by omega
    rw [l33b, ds_len, ge_nat]
    simp [Sp.kidB, mkI]
  | t :: rest, j, r, b, hd, hj, hk', hb, hb2 => by
    obtain ⟨r, rfl⟩ : ∃ i, r = i + 1 := ⟨r - 1, by omega⟩
    obtain ⟨h1, h2, h3⟩ := at_drop hd
    rw [l33b, ds_len, lt_nat h1]
    unfold Sp.kidB
    by_cases h : b ≤ a
    · obtain ⟨q1, q2, _⟩ := blk_spec t (a - b) (by omega)
      have ih := loop33b ha ha2 hl hT rest (j + 1) r (b + Sp.blk t (a - b)) h3 h1 (by simp at hk'; omega) (by omega) (by omega)
      rw [decide_eq_true h, nn_nat, nthD_ds, Int.toNat_natCast, h2, up_short h1 hl, wrapS (x := a - b) (by omega) (by omega)]
      simp only [cond_true, must, optK, Bool.and_self, cells_d, nth0, nth1, nth2, nth3, nth4, agg_d, hT t (List.mem_of_getElem? h2)]
      rw [decide_eq_true (p := 0 ≤ a - b) (by omega), decide_eq_true (p := a - b ≤ 1048576) (by omega)]
      simp only [Bool.and_self, cond_true]
      rw [wrapS (x := b + Sp.blk t (a - b)) (by omega) (by omega)]
      exact ih
    · rw [decide_eq_false h]
      rfl

theorem loop33a (ha : 0 ≤ a) (ha2 : a ≤ 1048576) (hn : 4294967296 < n) (hl : kids.length < 4294967296) (hl2 : nms.length < 4294967296) (hT : ∀ t ∈ kids, Sp.toT m t.d = some t) : ∀ (rest : List (List UInt8)) (j r : Nat) (b : Int), nms.drop j = rest → j ≤ nms.length → rest.length < r → 1 ≤ b → b ≤ 2 * a + 1 →
    LP cx (KB m) n 33 0 5 r [(1, V.d (D.int IntKind.i64 a)), (2, V.ptr 2 0), (5, V.d (D.int IntKind.i64 b)), (6, V.d (D.int IntKind.i64 j))] [(2, Ob.val 5 (V.d (D.agg [D.int IntKind.i64 k, D.str nm, D.sl 5 (T.ds kids), D.sl 1 (List.map D.str nms), D.int IntKind.i64 pl])))] (AK cx (KB m) n 33 0 5 (EK cx 33 0)) = some (.ret (mkI (match Sp.nmsB a rest b with | some c => Sp.kidB kids a c | none => a + 1)), [])
  | [], j, r, b, hd, hj, hk', hb, hb2 => by
    obtain ⟨r, rfl⟩ : ∃ i, r = i + 1 := ⟨r - 1, by omega⟩
    have : nms.length ≤ j := by simpa using hd
    obtain rfl : j = nms.length := by omega
    have hB := loop33b (n := n) (k := k) (nm := nm) (nms := nms) (pl := pl) ha ha2 hl hT kids 0 n b rfl (Nat.zero_le _) (by omega) hb (by omega)
    rw [l33a, List.length_map, ge_nat, cond_false]
    exact hB
  | x :: rest, j, r, b, hd, hj, hk', hb, hb2 => by
    obtain ⟨r, rfl⟩ : ∃ i, r = i + 1 := ⟨r - 1, by omega⟩
    obtain ⟨h1, h2, h3⟩ := at_drop hd
    have hB := loop33b (n := n) (k := k) (nm := nm) (nms := nms) (pl := pl) ha ha2 hl hT kids 0 n b rfl (Nat.zero_le _) (by omega) hb (by omega)
    rw [l33a, List.length_map, lt_nat h1]
    by_cases h : b ≤ a
    · rw [decide_eq_true h, nn_nat, up_short h1 hl2]
      simp only [cond_true, must, Bool.and_self, nthD_strs, Int.toNat_natCast, h2, cells_str, nth0]
      rw [optS]
      by_cases hx : a < (x.length : Int)
      · have e : Sp.nmsB a (x :: rest) b = none := by unfold Sp.nmsB; rw [decide_eq_true h, decide_eq_true hx]; rfl
        rw [decide_eq_true hx, wrapS (x := a + 1) (by omega) (by omega), e, cond_true]
        rfl
      · have ih := loop33a ha ha2 hn hl hl2 hT rest (j + 1) r (b + 1 + x.length) h3 h1 (by simp at hk'; omega) (by omega) (by omega)
        have e : Sp.nmsB a (x :: rest) b = Sp.nmsB a rest (b + 1 + x.length) := by 
          rw [Sp.nmsB, decide_eq_true h, decide_eq_false hx]; rfl
        rw [decide_eq_false hx, cond_false, optS, e, wrapS (x := b + 1) (by omega) (by omega), wrapS (x := b + 1 + x.length) (by omega) (by omega)]
        exact ih
    · have e : Sp.nmsB a (x :: rest) b = some b := by unfold Sp.nmsB; rw [decide_eq_false h]; rfl
      rw [e, decide_eq_false h, cond_true, cond_false]
      exact hB
end

theorem lim33 : ∀ (m : Nat) (t : T) (a : Int), t.depth ≤ m → t.ok = true → 0 ≤ a → a ≤ 1048576 → evLim cx 33 [.d t.d, .d (.int .i64 a)] [] = some (.ret (mkI (Sp.blk t a)), [])
  | 0, .mk .., _, h, _, _, _ => by simp [T.depth] at h
  | m + 1, .mk k nm kids nms pl, a, hd, ho, ha, ha2 => by
    have hK : knows cx (KB m).S (evLim cx) := pureK_knows none1K_knows fun ar q s _ har hs => by
      obtain ⟨y, n⟩ := q
      obtain rfl := decDI_some har
      obtain ⟨t, ht, hs⟩ := optK_some hs
      obtain ⟨hf, hs⟩ := must_some hs
      cases hs
      obtain ⟨rfl, h1, h2⟩ := toT_some ht
      simp only [Bool.and_eq_true, decide_eq_true_eq] at hf
      exact lim33 m t n h1 h2 hf.1 hf.2
    obtain ⟨h1, h2, h3, h4, h5⟩ := ok_inv ho
    have hkd := depth_inv hd
    have hT : ∀ t ∈ kids, Sp.toT m t.d = some t := fun t h => kid_toT hkd h5 h
    refine lim_bodyK hK (N := 4294967297) ?_
    refine (g33 4294967297 m k nm kids nms pl a).trans ?_
    rw [List.length_map]
    unfold Sp.blk
    by_cases q1 : a < (nm.length : Int)
    · rw [decide_eq_true q1, cond_true, Bool.true_or, cond_true, wrapS (x := a + 1) (by omega) (by omega)]
      rfl
    · rw [decide_eq_false q1, cond_false, Bool.false_or]
      by_cases q2 : a < (nms.length : Int)
      · rw [decide_eq_true q2, cond_true, cond_true, wrapS (x := a + 1) (by omega) (by omega)]
        rfl
      · rw [decide_eq_false q2, cond_false, cond_false, wrapS (x := 1 + nm.length) (by omega) (by omega)]
        exact loop33a ha ha2 (by omega) (shrt_lt h2) (shrt_lt h3) hT nms 0 4294967297 (1 + nm.length) rfl (Nat.zero_le _) (by have := shrt_lt h3; omega) (by omega) (by omega)

theorem limGreat (l : List T) (hl : shrt l = true) (ho : T.oks l = true) : evLim cx 16 [.d (.sl 5 (T.ds l))] [] = some (.ret (mkB (decide ((1500 : Int) < Sp.blk (.mk 0 [] l [] 0) 1500))), []) := by
  have hok : (T.mk 0 [] l [] 0).ok = true := by simp only [T.ok, hl, ho]; rfl
  have hK : knows cx (KB (T.mk 0 [] l [] 0).depth).S (evLim cx) := pureK_knows none1K_knows fun ar q s _ har hs => by
    obtain ⟨y, n⟩ := q
    obtain rfl := decDI_some har
    obtain ⟨t, ht, hs⟩ := optK_some hs
    obtain ⟨hf, hs⟩ := must_some hs
    cases hs
    obtain ⟨rfl, h1, h2⟩ := toT_some ht
    simp only [Bool.and_eq_true, decide_eq_true_eq] at hf
    exact lim33 t.depth t n (Nat.le_refl _) h2 hf.1 hf.2
  refine lim_bodyK hK (N := 0) ?_
  rw [g16]
  have := toT_d (Nat.le_refl _) hok
  simp only [T.d, List.map_nil] at this
  rw [this]
  rfl
theorem great_not {l : List T} (h : decide ((1500 : Int) < Sp.blk (.mk 0 [] l [] 0) 1500) = false) : Sp.bulks l < 1500 := by
  have h1 := of_decide_eq_false h
  obtain ⟨_, _, h2⟩ := blk_spec (.mk 0 [] l [] 0) 1500 (by omega)
  have := h2 (by omega)
  simp only [Sp.bulk, List.length_nil, Sp.lens] at this
  omega
end Go.Vai
end

section
namespace Go.Vai
open Go.Proofs

theorem g20 (n : Nat) (k : Int) (nm : List UInt8) (kids : List T) (nms : List (List UInt8)) (pl : Int) : evBody cx K18 n 20 [.d (.agg [.int .i64 k, .str nm, .sl 5 (T.ds kids), .sl 1 (nms.map .str), .int .i64 pl])] [] = optK (Sp.toC (D.agg [D.int IntKind.i64 k, D.str nm, D.sl 5 (T.ds kids), D.sl 1 (List.map D.str nms), D.int IntKind.i64 pl])) fun b => bif !Sp.right b then some (Out.ret (V.tup [V.d (D.str []), V.d (D.int IntKind.i64 (61 : Int))]), []) else optK (optK (Sp.toC (D.agg [D.int IntKind.i64 k, D.str nm, D.sl 5 (T.ds kids), D.sl 1 (List.map D.str nms), D.int IntKind.i64 pl])) fun t => must (Sp.right t) (some (Sp.text t (0 : Int)))) fun s => must (Sp.room [] s) (optK (Sp.bytes (Sp.app [] s)) fun s_1 => must (Sp.fit (Sp.app [] s).length (Sp.app [] s)) (must (decide ((Sp.app [] s).length ≤ 65536)) (some (Out.ret (V.tup [V.d (D.str s_1), V.d (D.int IntKind.i64 (0 : Int))]), [])))) := by kernel_rfl

theorem lim20 (t : T) (ho : t.ok = true) (hb : 12 * Sp.bulk t ≤ 65536) : evLim cx 20 [.d t.d] [] = some (.ret (mkE (bif Sp.right t then (Sp.text t 0, 0) else ([], 61))), []) := by
  refine lim_bodyK K18_knows (N := 0) ?_
  have hC := toC_d ho
  have hlen := text_len t 0
  obtain ⟨k, nm, kids, nms, pl⟩ := t
  refine (g20 0 k nm kids nms pl).trans ?_
  simp only [T.d] at hC
  rw [hC, optS]
  cases hr : Sp.right (.mk k nm kids nms pl)
  · rfl
  · simp only [Bool.not_true, cond_false, must, cond_true, optS, hr, bytes_app, fit_self]
    rw [room_of (by simp; omega), decide_eq_true (by rw [app_len]; simp; omega)]
    rfl
end Go.Vai
end
