/-
  Slice: declarations by their names, and what each one uses: the code does it.
  Slice: what each declaration uses: the code does it, the document's too.
  Slice: what each declaration uses.
  Slice: Uses and Names: the code does it, the document's too.
  Slice: the document's Uses; Names.
  Slice: lists that are the same are told so.
  Slice: the chapter's example.
  Slice: what the laws call.
  Slice: SliceUses, in plain.
  Show: what is read of a memory as trees is trees.
  Slice: what the frames of the laws stand on.
-/
import Derived.Test.YtmolcgfhgdhgoaaGreatDoorSliPart5
import Derived.ReadAgain
import Derived.OpenShut

set_option linter.all false
set_option linter.unusedSimpArgs false
set_option linter.unusedVariables false

section
namespace Go.Vai
open Go.Proofs
theorem yd0(f:D→Option (List UInt8×Int))(n:Nat)(l:List T):zk cx (zhr f) n 51 [.d (.sl 5 (T.ds l))] []=zc (f (D.sl 5 (T.ds l))) fun b=>bif decide (b.snd=(61:Int)) then some (Out.ret (V.tup [V.d D.nilmap,V.d (D.int .i64 b.snd)]),[]) else LP cx (zhr f) n 51 0 6 n [(6,V.map 19),(20,V.d (D.sl 5 (T.ds l))),(21,V.d (D.int .i64 (↑(T.ds l).length:Int))),(22,V.d (D.int .i64 (0:Int)))] [(19,Ob.map [] [])] (AK cx (zhr f) n 51 0 6 (EK cx 51 0)):=by kernel_rfl
theorem ydy(f:D→Option (List UInt8×Int))(n:Nat)(l:List T):zk cx (zch f) n 56 [.d (.sl 5 (T.ds l))] []=zc (f (D.sl 5 (T.ds l))) fun b=>bif decide (b.snd=(61:Int)) then some (Out.ret (V.d (D.int .i64 (61:Int))),[]) else LP cx (zch f) n 56 0 5 n [(0,V.d (D.sl 5 (T.ds l))),(5,V.d (D.int .i64 (0:Int)))] [] (AK cx (zch f) n 56 0 5 (EK cx 56 0)):=by kernel_rfl
theorem yb4(pl:D→Option Int)(n:Nat)(l:List T):zk cx (z5n pl) n 24 [.d (.sl 5 (T.ds l))] []=zc (pl (D.sl 5 (T.ds l))) fun b=>bif !decide (b=(0:Int)) then some (Out.ret (V.tup [V.d (D.sl 1 []),V.d (D.int .i64 b)]),[]) else LP cx (z5n pl) n 24 0 6 n [(4,V.d D.nilmap),(6,V.sl 1 [] 6),(22,V.d (D.sl 5 (T.ds l))),(23,V.d (D.int .i64 (↑(T.ds l).length:Int))),(24,V.d (D.int .i64 (0:Int)))] [(6,Ob.tok 0)] (AK cx (z5n pl) n 24 0 6 (EK cx 24 0)):=by kernel_rfl
theorem yd8(pl:D→Option (List D×List D))(al:D→Option (List D))(s:List D→Option (List D))(n:Nat)(l:List T):zk cx (zai pl al s) n 24 [.d (.sl 5 (T.ds l))] []=zc (pl (D.sl 5 (T.ds l))) fun b=>LP cx (zai pl al s) n 24 0 6 n [(4,V.d (D.map b.1 b.2)),(6,V.sl 1 [] 6),(22,V.d (D.sl 5 (T.ds l))),(23,V.d (D.int .i64 (↑(T.ds l).length:Int))),(24,V.d (D.int .i64 (0:Int)))] [(6,Ob.tok 0)] (AK cx (zai pl al s) n 24 0 6 (EK cx 24 0)):=by kernel_rfl
theorem ydx(sp:D→D→D→Option (List D))(p:D→List UInt8→Option Bool)(n:Nat)(l:List T)(i k:Int):zk cx (ycc sp p) n 57 [.d (.sl 5 (T.ds l)),.d (.int .i64 i),.d (.int .i64 k)] []=zb (decide (0≤i)&&decide (i<(↑(T.ds l).length:Int))) (za (T.ds l) i.toNat fun y=>za y.cells 2 fun c=>match c with
 | D.sl s l_1=>bif s.beq (cx.P.cellsOf 26)||l_1.isEmpty then zb (decide ((0:Int)<(↑l_1.length:Int))) (za l_1 (0:Int).toNat fun y=>za y.cells 0 fun c=>za y.cells 1 fun c_1=>za y.cells 2 fun c_2=>za y.cells 3 fun c_3=>za y.cells 4 fun c_4=>zc (sp (D.sl 1 [],D.agg [c,c_1,c_2,c_3,c_4],D.sl 1 []).fst (D.sl 1 [],D.agg [c,c_1,c_2,c_3,c_4],D.sl 1 []).snd.fst (D.sl 1 [],D.agg [c,c_1,c_2,c_3,c_4],D.sl 1 []).snd.snd) fun b=>zb (decide (0≤i)&&decide (i<(↑(T.ds l).length:Int))) (za (T.ds l) i.toNat fun y=>za y.cells 2 fun c=>match c with
  | D.sl s l_2=>bif s.beq (cx.P.cellsOf 26)||l_2.isEmpty then zb (decide ((1:Int)<(↑l_2.length:Int))) (za l_2 (1:Int).toNat fun y=>za y.cells 0 fun c=>za y.cells 1 fun c_5=>za y.cells 2 fun c_6=>za y.cells 3 fun c_7=>za y.cells 4 fun c_8=>zc (sp (D.sl 1 b,D.agg [c,c_5,c_6,c_7,c_8],D.sl 1 []).fst (D.sl 1 b,D.agg [c,c_5,c_6,c_7,c_8],D.sl 1 []).snd.fst (D.sl 1 b,D.agg [c,c_5,c_6,c_7,c_8],D.sl 1 []).snd.snd) fun b=>zb (decide (0≤k)&&decide (k<(↑(T.ds l).length:Int))) (za (T.ds l) k.toNat fun y=>za y.cells 1 fun c=>match c with
   | D.str s=>zc (p (D.sl 1 b,s).fst (D.sl 1 b,s).snd) fun b=>some (Out.ret (V.d (D.bool b)),[])
   | x=>none)) else none
  | x=>none)) else none
 | x=>none):=by kernel_rfl
theorem yd7(w:D→Option Int)(u:D→Int→Int→Option Bool)(n:Nat)(l:List T):zk cx (zbg w u) n 29 [.d (.sl 5 (T.ds l))] []=zc (w (D.sl 5 (T.ds l))) fun b=>bif !decide (b=(0:Int)) then some (Out.ret (V.tup [V.d (D.sl 1 []),V.d (D.int .i64 b)]),[]) else LP cx (zbg w u) n 29 0 6 n [(0,V.d (D.sl 5 (T.ds l))),(5,V.sl 1 [] 5),(6,V.d (D.int .i64 (0:Int)))] [(5,Ob.tok 0)] (AK cx (zbg w u) n 29 0 6 (EK cx 29 0)):=by kernel_rfl
theorem yd6(r:D→Option Int)(al:D→Option (List D))(n:Nat)(k:Int)(nm:List UInt8)(kids:List T)(nms:List (List UInt8))(pl:Int):zk cx (ycg r al) n 30 [.d (T.mk k nm kids nms pl).d] []=zc (r (D.agg [D.int .i64 k,D.str nm,D.sl 5 (T.ds kids),D.sl 1 (List.map D.str nms),D.int .i64 pl])) fun b=>bif !decide (b=(0:Int)) then some (Out.ret (V.tup [V.d (D.sl 1 []),V.d (D.int .i64 (61:Int))]),[]) else zc (al (D.sl 5 [D.agg [D.int .i64 k,D.str nm,D.sl 5 (T.ds kids),D.sl 1 (List.map D.str nms),D.int .i64 pl]])) fun b=>some (Out.ret (V.tup [V.d (D.sl 1 b),V.d (D.int .i64 (0:Int))]),[]):=by kernel_rfl
theorem yd5(r:D→Option Bool)(sp:D→D→D→Option (List D))(n:Nat)(k:Int)(nm:List UInt8)(kids:List T)(nms:List (List UInt8))(pl:Int):zk cx (ycf r sp) n 31 [.d (T.mk k nm kids nms pl).d] []=zc (r (D.agg [D.int .i64 k,D.str nm,D.sl 5 (T.ds kids),D.sl 1 (List.map D.str nms),D.int .i64 pl])) fun b=>bif !b then some (Out.ret (V.tup [V.d (D.sl 1 []),V.d (D.int .i64 (61:Int))]),[]) else zc (sp (D.sl 1 [],D.agg [D.int .i64 k,D.str nm,D.sl 5 (T.ds kids),D.sl 1 (List.map D.str nms),D.int .i64 pl],D.sl 1 []).fst (D.sl 1 [],D.agg [D.int .i64 k,D.str nm,D.sl 5 (T.ds kids),D.sl 1 (List.map D.str nms),D.int .i64 pl],D.sl 1 []).snd.fst (D.sl 1 [],D.agg [D.int .i64 k,D.str nm,D.sl 5 (T.ds kids),D.sl 1 (List.map D.str nms),D.int .i64 pl],D.sl 1 []).snd.snd) fun b=>some (Out.ret (V.tup [V.d (D.sl 1 b),V.d (D.int .i64 (0:Int))]),[]):=by kernel_rfl
theorem ybu(f:D→Option (List UInt8×Int))(n k:Nat)(l:List T)(ks vs:List D)(i:Int):LP cx (zhr f) n 51 0 6 (k+1) [(6,V.map 19),(20,V.d (D.sl 5 (T.ds l))),(21,V.d (D.int .i64 (l.length:Int))),(22,V.d (D.int .i64 i))] [(19,Ob.map ks vs)] (AK cx (zhr f) n 51 0 6 (EK cx 51 0))=bif decide (i<(↑l.length:Int)) then zb (decide (0≤i)&&decide (i<(↑(T.ds l).length:Int))) (za (T.ds l) i.toNat fun y=>za y.cells 0 fun c=>za y.cells 1 fun c=>za y.cells 2 fun c_1=>za y.cells 3 fun c_2=>za y.cells 4 fun c_3=>match c with
 | D.str s=>zc (qr (D.str s) ks 0) fun o=>zis o (fun i=>za vs i fun y=>match y with
  | D.int k' n=>bif decide (k'=IntKind.i64) then some (Out.ret (V.tup [V.d D.nilmap,V.d (D.int .i64 (270:Int))]),[]) else none
  | x=>none) (match c with
  | D.str s=>zc (qr (D.str s) ks 0) fun o=>zis o (fun i_1=>LP cx (zhr f) n 51 0 6 k [(6,V.map 19),(20,V.d (D.sl 5 (T.ds l))),(21,V.d (D.int .i64 (↑l.length:Int))),(22,V.d (D.int .i64 (IntKind.i64.wrap (i+(1:Int)))))] [(19,Ob.map ks (vs.set i_1 (D.int .i64 i)))] (AK cx (zhr f) n 51 0 6 (EK cx 51 0))) (LP cx (zhr f) n 51 0 6 k [(6,V.map 19),(20,V.d (D.sl 5 (T.ds l))),(21,V.d (D.int .i64 (↑l.length:Int))),(22,V.d (D.int .i64 (IntKind.i64.wrap (i+(1:Int)))))] [(19,Ob.map (ks++[D.str s]) (vs++[D.int .i64 i]))] (AK cx (zhr f) n 51 0 6 (EK cx 51 0)))
  | x=>none)
 | x=>none) else some (Out.ret (V.tup [V.d (D.map ks vs),V.d (D.int .i64 (0:Int))]),[]):=by kernel_rfl
theorem z6h(f:D→Option (List UInt8×Int))(n k:Nat)(l:List T)(i:Int):LP cx (zch f) n 56 0 5 (k+1) [(0,V.d (D.sl 5 (T.ds l))),(5,V.d (D.int .i64 i))] [] (AK cx (zch f) n 56 0 5 (EK cx 56 0))=bif decide (i<(↑(T.ds l).length:Int)) then LP cx (zch f) n 56 0 8 n [(0,V.d (D.sl 5 (T.ds l))),(5,V.d (D.int .i64 i)),(6,V.d (D.int .i64 (0:Int)))] [] (AL cx (zch f) n 56 0 5 8 (inK cx (zch f) n 56 0 5 k (AK cx (zch f) n 56 0 5 (EK cx 56 0)))) else some (Out.ret (V.d (D.int .i64 (0:Int))),[]):=by kernel_rfl
theorem yby(pl:D→Option (List D×List D))(al:D→Option (List D))(s:List D→Option (List D))(n k:Nat)(l:List T)(ks vs L:List D)(i:Int):LP cx (zai pl al s) n 24 0 6 (k+1) [(4,V.d (D.map ks vs)),(6,V.sl 1 L 6),(22,V.d (D.sl 5 (T.ds l))),(23,V.d (D.int .i64 (l.length:Int))),(24,V.d (D.int .i64 i))] [(6,Ob.tok L.length)] (AK cx (zai pl al s) n 24 0 6 (EK cx 24 0))=bif decide (i<(↑l.length:Int)) then zb (decide (0≤i)&&decide (i<(↑(T.ds l).length:Int))) (za (T.ds l) i.toNat fun y=>za y.cells 0 fun c=>za y.cells 1 fun c=>za y.cells 2 fun c=>za y.cells 3 fun c_1=>za y.cells 4 fun c_2=>match c with
 | D.sl s_1 l_1=>bif s_1.beq (cx.P.cellsOf 26)||l_1.isEmpty then zc (al (D.sl 5 l_1)) fun b=>LP cx (zai pl al s) n 24 0 10 n [(4,V.d (D.map ks vs)),(6,V.sl 1 L 6),(9,V.slo 9 1 0),(22,V.d (D.sl 5 (T.ds l))),(23,V.d (D.int .i64 (↑l.length:Int))),(24,V.d (D.int .i64 i)),(30,V.d (D.sl 1 b)),(31,V.d (D.int .i64 (↑b.length:Int))),(32,V.d (D.int .i64 (0:Int)))] [(6,Ob.tok L.length),(9,Ob.row [])] (AL cx (zai pl al s) n 24 0 6 10 (inK cx (zai pl al s) n 24 0 6 k (AK cx (zai pl al s) n 24 0 6 (EK cx 24 0)))) else none
 | x=>none) else some (Out.ret (V.tup [V.d (D.sl 1 L),V.d (D.int .i64 (0:Int))]),[]):=by kernel_rfl
theorem ybx(w:D→Option Int)(u:D→Int→Int→Option Bool)(n k:Nat)(l:List T)(L:List D)(i:Int):LP cx (zbg w u) n 29 0 6 (k+1) [(0,V.d (D.sl 5 (T.ds l))),(5,V.sl 1 L 5),(6,V.d (D.int .i64 i))] [(5,Ob.tok L.length)] (AK cx (zbg w u) n 29 0 6 (EK cx 29 0))=bif decide (i<(↑(T.ds l).length:Int)) then LP cx (zbg w u) n 29 0 10 n [(0,V.d (D.sl 5 (T.ds l))),(5,V.sl 1 L 5),(6,V.d (D.int .i64 i)),(7,V.sl 1 [] 7),(8,V.d (D.int .i64 (0:Int)))] [(5,Ob.tok L.length),(7,Ob.tok 0)] (AL cx (zbg w u) n 29 0 6 10 (inK cx (zbg w u) n 29 0 6 k (AK cx (zbg w u) n 29 0 6 (EK cx 29 0)))) else some (Out.ret (V.tup [V.d (D.sl 1 L),V.d (D.int .i64 (0:Int))]),[]):=by kernel_rfl
theorem z6g(f:D→Option (List UInt8×Int))(n k m:Nat)(l:List T)(i j:Int):LP cx (zch f) n 56 0 8 (m+1) [(0,V.d (D.sl 5 (T.ds l))),(5,V.d (D.int .i64 i)),(6,V.d (D.int .i64 j))] [] (AL cx (zch f) n 56 0 5 8 (inK cx (zch f) n 56 0 5 k (AK cx (zch f) n 56 0 5 (EK cx 56 0))))=bif decide (j<i) then zb (decide (0≤i)&&decide (i<(↑(T.ds l).length:Int))) (za (T.ds l) i.toNat fun y=>za y.cells 1 fun c=>match c with
 | D.str s=>zb (decide (0≤j)&&decide (j<(↑(T.ds l).length:Int))) (za (T.ds l) j.toNat fun y=>za y.cells 1 fun c=>match c with
  | D.str s_1=>bif decide (s=s_1) then some (Out.ret (V.d (D.int .i64 (270:Int))),[]) else LP cx (zch f) n 56 0 8 m [(0,V.d (D.sl 5 (T.ds l))),(5,V.d (D.int .i64 i)),(6,V.d (D.int .i64 (IntKind.i64.wrap (j+(1:Int)))))] [] (AL cx (zch f) n 56 0 5 8 (inK cx (zch f) n 56 0 5 k (AK cx (zch f) n 56 0 5 (EK cx 56 0))))
  | x=>none)
 | x=>none) else LP cx (zch f) n 56 0 5 k [(0,V.d (D.sl 5 (T.ds l))),(5,V.d (D.int .i64 (IntKind.i64.wrap (i+(1:Int)))))] [] (AK cx (zch f) n 56 0 5 (EK cx 56 0)):=by kernel_rfl
theorem z6k(pl:D→Option (List D×List D))(al:D→Option (List D))(s:List D→Option (List D))(n k m:Nat)(l:List T)(ks vs L U:List D)(b:List (List UInt8))(i j:Int):LP cx (zai pl al s) n 24 0 10 (m+1) [(4,V.d (D.map ks vs)),(6,V.sl 1 L 6),(9,V.slo 9 1 U.length),(22,V.d (D.sl 5 (T.ds l))),(23,V.d (D.int .i64 (l.length:Int))),(24,V.d (D.int .i64 i)),(30,V.d (D.sl 1 (b.map .str))),(31,V.d (D.int .i64 (b.length:Int))),(32,V.d (D.int .i64 j))] [(6,Ob.tok L.length),(9,Ob.row U)] (AL cx (zai pl al s) n 24 0 6 10 (inK cx (zai pl al s) n 24 0 6 k (AK cx (zai pl al s) n 24 0 6 (EK cx 24 0))))=bif decide (j<(↑b.length:Int)) then zb (decide (0≤j)&&decide (j<(↑(List.map D.str b).length:Int))) (za (List.map D.str b) j.toNat fun y=>za y.cells 0 fun c=>match c with
 | D.str s_1=>zc (qr (D.str s_1) ks 0) fun o=>zis o (fun i_1=>za vs i_1 fun y=>match y with
  | D.int k' n_1=>bif decide (k'=IntKind.i64) then zb (U.length.beq U.length&&decide (U.length+[D.int .i64 n_1].length≤4294967296)) (LP cx (zai pl al s) n 24 0 10 m [(4,V.d (D.map ks vs)),(6,V.sl 1 L 6),(9,V.slo 9 1 (U.length+[D.int .i64 n_1].length)),(22,V.d (D.sl 5 (T.ds l))),(23,V.d (D.int .i64 (↑l.length:Int))),(24,V.d (D.int .i64 i)),(30,V.d (D.sl 1 (List.map D.str b))),(31,V.d (D.int .i64 (↑b.length:Int))),(32,V.d (D.int .i64 (IntKind.i64.wrap (j+(1:Int)))))] [(6,Ob.tok L.length),(9,Ob.row (U++[D.int .i64 n_1]))] (AL cx (zai pl al s) n 24 0 6 10 (inK cx (zai pl al s) n 24 0 6 k (AK cx (zai pl al s) n 24 0 6 (EK cx 24 0))))) else none
  | x=>none) (LP cx (zai pl al s) n 24 0 10 m [(4,V.d (D.map ks vs)),(6,V.sl 1 L 6),(9,V.slo 9 1 U.length),(22,V.d (D.sl 5 (T.ds l))),(23,V.d (D.int .i64 (↑l.length:Int))),(24,V.d (D.int .i64 i)),(30,V.d (D.sl 1 (List.map D.str b))),(31,V.d (D.int .i64 (↑b.length:Int))),(32,V.d (D.int .i64 (IntKind.i64.wrap (j+(1:Int)))))] [(6,Ob.tok L.length),(9,Ob.row U)] (AL cx (zai pl al s) n 24 0 6 10 (inK cx (zai pl al s) n 24 0 6 k (AK cx (zai pl al s) n 24 0 6 (EK cx 24 0)))))
 | x=>none) else zc (s (U,U.length).fst) fun l_1=>zb ((U,U.length).snd.beq (U,U.length).fst.length) (zb (U.length.beq l_1.length) (zb (decide (L.length=L.length)&&decide (L.length+[D.sl 1 l_1].length≤4294967296)) (LP cx (zai pl al s) n 24 0 6 k [(4,V.d (D.map ks vs)),(6,V.sl 1 (L++[D.sl 1 l_1]) 6),(22,V.d (D.sl 5 (T.ds l))),(23,V.d (D.int .i64 (↑l.length:Int))),(24,V.d (D.int .i64 (IntKind.i64.wrap (i+(1:Int)))))] [(6,Ob.tok (L.length+[D.sl 1 l_1].length))] (AK cx (zai pl al s) n 24 0 6 (EK cx 24 0))))):=by kernel_rfl
theorem z6j(w:D→Option Int)(u:D→Int→Int→Option Bool)(n k m:Nat)(l:List T)(L U:List D)(i j:Int):LP cx (zbg w u) n 29 0 10 (m+1) [(0,V.d (D.sl 5 (T.ds l))),(5,V.sl 1 L 5),(6,V.d (D.int .i64 i)),(7,V.sl 1 U 7),(8,V.d (D.int .i64 j))] [(5,Ob.tok L.length),(7,Ob.tok U.length)] (AL cx (zbg w u) n 29 0 6 10 (inK cx (zbg w u) n 29 0 6 k (AK cx (zbg w u) n 29 0 6 (EK cx 29 0))))=bif decide (j<(↑(T.ds l).length:Int)) then zc (u (D.sl 5 (T.ds l),i,j).fst (D.sl 5 (T.ds l),i,j).snd.fst (D.sl 5 (T.ds l),i,j).snd.snd) fun b=>bif b then zb (decide (U.length=U.length)&&decide (U.length+[D.int .i64 j].length≤4294967296)) (LP cx (zbg w u) n 29 0 10 m [(0,V.d (D.sl 5 (T.ds l))),(5,V.sl 1 L 5),(6,V.d (D.int .i64 i)),(7,V.sl 1 (U++[D.int .i64 j]) 7),(8,V.d (D.int .i64 (IntKind.i64.wrap (j+(1:Int)))))] [(5,Ob.tok L.length),(7,Ob.tok (U.length+[D.int .i64 j].length))] (AL cx (zbg w u) n 29 0 6 10 (inK cx (zbg w u) n 29 0 6 k (AK cx (zbg w u) n 29 0 6 (EK cx 29 0))))) else LP cx (zbg w u) n 29 0 10 m [(0,V.d (D.sl 5 (T.ds l))),(5,V.sl 1 L 5),(6,V.d (D.int .i64 i)),(7,V.sl 1 U 7),(8,V.d (D.int .i64 (IntKind.i64.wrap (j+(1:Int)))))] [(5,Ob.tok L.length),(7,Ob.tok U.length)] (AL cx (zbg w u) n 29 0 6 10 (inK cx (zbg w u) n 29 0 6 k (AK cx (zbg w u) n 29 0 6 (EK cx 29 0)))) else zb (decide (L.length=L.length)&&decide (L.length+[D.sl 1 U].length≤4294967296)) (LP cx (zbg w u) n 29 0 6 k [(0,V.d (D.sl 5 (T.ds l))),(5,V.sl 1 (L++[D.sl 1 U]) 5),(6,V.d (D.int .i64 (IntKind.i64.wrap (i+(1:Int)))))] [(5,Ob.tok (L.length+[D.sl 1 U].length))] (AK cx (zbg w u) n 29 0 6 (EK cx 29 0))):=by kernel_rfl
def zdh(l:List T):Bool:=yi l&&T.oks l&&decide (12 * Sp.bulks l≤65536)
noncomputable def zim(x:D):Option (List T):=zc (vu Sp.toC x) fun l=>zb (zdh l) (some l)
theorem qh{l:List T}:zdh l=true↔yi l=true∧T.oks l=true∧12 * Sp.bulks l≤65536:=by
 unfold zdh
 rw [Bool.and_eq_true,Bool.and_eq_true,decide_eq_true_eq,and_assoc]
theorem zeo{x:D}{l:List T}(h:zim x=some l):x=.sl 5 (T.ds l)∧zdh l=true:=by
 obtain ⟨m,hm,h⟩:=zd h
 obtain ⟨h1,h⟩:=ze h
 cases h
 obtain ⟨d,rfl,h2,_⟩:=zem hm
 exact ⟨by rw [(zfq (fun x t h=>(xe h).1) h2).1],h1⟩
theorem zm1{l:List T}(h:zdh l=true):zim (.sl 5 (T.ds l))=some l:=by
 obtain ⟨h1,h2,h3⟩:=qh.1 h
 unfold zim
 rw [zm0 (fun t ht=>zdf (wn h2 ht)) h1]
 show zb (zdh l) _=_
 rw [h]; rfl
theorem zqu:∀ l:List (List UInt8),l.length≤Sp.lens l
 | []=>Nat.le_refl _
 | x::l=>by have:=zqu l; simp only [Sp.lens,List.length_cons]; omega
mutual
theorem zhi:∀ t:T,Sp.cnt t≤Sp.bulk t
 | .mk _ nm kids nms _=>by
  have:=zrm kids
  have:=zqu nms
  simp only [Sp.cnt,Sp.bulk]; omega
theorem zrm:∀ l:List T,xa l≤Sp.bulks l
 | []=>Nat.le_refl _
 | t::l=>by
  have:=zhi t
  have:=zrm l
  simp only [xa,Sp.bulks]; omega
end
theorem z3e(t:T):1≤Sp.bulk t:=by cases t; simp only [Sp.bulk]; omega
theorem zk5:∀ l:List T,l.length≤Sp.bulks l
 | []=>Nat.le_refl _
 | t::l=>by have:=zk5 l; have:=z3e t; simp only [Sp.bulks,List.length_cons]; omega
def nmL(l:List T):List (List UInt8):=l.map T.nm
theorem zsd{l:List T}{j:Nat}{x:T}(hx:l[j]?=some x):(nmL l)[j]?=some x.nm:=by unfold nmL; rw [List.getElem?_map,hx]; rfl
def za7:List (List UInt8)→List (List UInt8)→Bool
 | _,[]=>false
 | seen,s::r=>Sp.mem s seen||za7 (seen++[s]) r
def Sp.wr(l:List T):Int:=bif l.all yk then (bif za7 [] (nmL l) then 270 else 0) else 61
theorem z4v(s:List UInt8)(l:List (List UInt8)):w9 (l.map .str) s=Sp.mem s l:=by
 unfold w9 Sp.mem
 rw [List.any_map]
 congr 1
 funext x
 show decide (s=x)=_
 by_cases h:s=x
 ·subst h; rfl
 ·rw [decide_eq_false h,decide_eq_false (fun e=>h e.symm)]
theorem z07(l:List (List UInt8)):(l.map D.str).all znz=true:=by
 rw [List.all_map,List.all_eq_true]; intro x _; rfl
theorem cellT(t:T){R:Type}(F:D→D→D→D→D→Option R):(za t.d.cells 0 fun a=>za t.d.cells 1 fun b=>za t.d.cells 2 fun c=>za t.d.cells 3 fun d=>za t.d.cells 4 fun e=>F a b c d e)=F (.int .i64 t.k) (.str t.nm) (.sl 5 (T.ds t.kids)) (.sl 1 (t.nms.map .str)) (.int .i64 t.pl):=by
 rw [yc]; rfl
noncomputable def f87(x:D):Option (List UInt8×Int):=zc (zim x) fun l=>some (zbm l)
theorem zus(l:List T):(zbm l).2=bif l.all yk then 0 else 61:=by
 unfold zbm; cases l.all yk <;> rfl
theorem z61(n:Nat)(l:List T)(hs:yi l=true):∀ (d j k:Nat),j+d=l.length→d<k →
  LP cx (zhr f87) n 51 0 6 k [(6,V.map 19),(20,V.d (D.sl 5 (T.ds l))),(21,V.d (D.int .i64 (l.length:Int))),(22,V.d (D.int .i64 (j:Int)))] [(19,Ob.map (((nmL l).take j).map .str) (nI (List.range j)))] (AK cx (zhr f87) n 51 0 6 (EK cx 51 0)) =
   bif za7 ((nmL l).take j) ((nmL l).drop j) then some (.ret (z4k 270),[]) else some (.ret (mkM ((nmL l).map .str,nI (List.range l.length))),[]):=by
 intro d
 induction d with
 | zero=>
  intro j k hj hk
  obtain ⟨k,rfl⟩:∃ k',k=k'+1:=⟨k - 1,by omega⟩
  obtain rfl:j=l.length:=by omega
  have hl:(nmL l).length=l.length:=List.length_map _
  rw [ybu,yy,cond_false,List.drop_eq_nil_of_le (by omega),List.take_of_length_le (by omega)]
  rfl
 | succ d ih=>
  intro j k hj hk
  obtain ⟨k,rfl⟩:∃ k',k=k'+1:=⟨k - 1,by omega⟩
  have hlt:j<l.length:=by omega
  have hx:=List.getElem?_eq_getElem hlt
  generalize l[j]=x at hx
  have hn:=zsd hx
  have hlt2:j<(nmL l).length:=by unfold nmL; rw [List.length_map]; exact hlt
  have hdr:(nmL l).drop j=x.nm::(nmL l).drop (j+1):=by
   rw [List.drop_eq_getElem_cons hlt2]
   rw [List.getElem?_eq_getElem hlt2] at hn
   injection hn with hn; rw [hn]
  have htk:(nmL l).take (j+1)=(nmL l).take j++[x.nm]:=by
   rw [List.take_succ,hn]; rfl
  have hih:=ih (j+1) k (by omega) (by omega)
  rw [ybu,ye hlt,zq,ye hlt,xd,z6,Int.toNat_natCast,hx]
  obtain ⟨o,ho,hi,hb⟩:=zk4 x.nm (((nmL l).take j).map .str) 0 (z07 _)
  rw [z4v] at hi
  rw [hdr]
  show (za x.d.cells 0 _)=bif (Sp.mem x.nm ((nmL l).take j)||za7 ((nmL l).take j++[x.nm]) ((nmL l).drop (j+1))) then _ else _
  refine (cellT x (fun _ c _ _ _=>match c with
   | D.str s=>zc (qr (D.str s) (((nmL l).take j).map .str) 0) fun o=>zis o (fun i=>za (nI (List.range j)) i fun y=>match y with
     | D.int k' n=>bif decide (k'=IntKind.i64) then some (Out.ret (z4k 270),[]) else none
     | _=>none)
    (match c with
     | D.str s=>zc (qr (D.str s) (((nmL l).take j).map .str) 0) fun o=>zis o
      (fun i_1=>LP cx (zhr f87) n 51 0 6 k [(6,V.map 19),(20,V.d (D.sl 5 (T.ds l))),(21,V.d (D.int .i64 (l.length:Int))),(22,V.d (D.int .i64 (IntKind.i64.wrap ((j:Int)+1))))] [(19,Ob.map (((nmL l).take j).map .str) ((nI (List.range j)).set i_1 (D.int .i64 (j:Int))))] (AK cx (zhr f87) n 51 0 6 (EK cx 51 0)))
      (LP cx (zhr f87) n 51 0 6 k [(6,V.map 19),(20,V.d (D.sl 5 (T.ds l))),(21,V.d (D.int .i64 (l.length:Int))),(22,V.d (D.int .i64 (IntKind.i64.wrap ((j:Int)+1))))] [(19,Ob.map (((nmL l).take j).map .str++[D.str s]) (nI (List.range j)++[D.int .i64 (j:Int)]))] (AK cx (zhr f87) n 51 0 6 (EK cx 51 0)))
     | _=>none)
   | _=>none)).trans ?_
  show (zc (qr (D.str x.nm) (((nmL l).take j).map .str) 0) fun o=>zis o _ (zc (qr (D.str x.nm) (((nmL l).take j).map .str) 0) fun o=>zis o _ _))=_
  rw [ho,←hi]
  cases o with
  | some i=>
   have:=hb i rfl
   simp only [List.length_map,List.length_take] at this
   show (za (nI (List.range j)) i fun y=>_)=_
   rw [zsa,List.getElem?_range (by omega)]
   rfl
  | none=>
   have e:((j:Int)+1)=((j+1:Nat):Int):=by omega
   have h1:((nmL l).take j).map D.str++[D.str x.nm]=((nmL l).take (j+1)).map D.str:=by rw [htk,List.map_append]; rfl
   have h2:nI (List.range j)++[D.int .i64 (j:Int)]=nI (List.range (j+1)):=by unfold nI; rw [List.range_succ,List.map_append]; rfl
   show LP cx (zhr f87) n 51 0 6 k _ [(19,Ob.map (((nmL l).take j).map D.str++[D.str x.nm]) (nI (List.range j)++[D.int .i64 (j:Int)]))] _=_
   rw [IntWalk.i64_in _ (by have:=yj hs; omega),e,h1,h2,hih,htk]
   rfl
theorem xk{a:List V}{x:D}(h:qn a=some x):a=[.d x]:=by
 unfold qn at h; split at h <;> cases h; rfl
theorem m51(l:List T)(hg:zdh l=true):zh cx 51 [.d (.sl 5 (T.ds l))] []=some (.ret (bif decide (Sp.wr l=0) then mkM ((nmL l).map .str,nI (List.range l.length)) else z4k (Sp.wr l)),[]):=by
 have hk:knows cx (zhr f87).S (zh cx):=zj zo fun a q b hd h hb=>by
  obtain ⟨m,hm,hb⟩:=zd hb
  cases hb
  obtain ⟨h0,hg⟩:=zeo hm
  obtain ⟨h1,h2,h3⟩:=qh.1 hg
  rw [xk h,h0]
  exact z4s m h1 h2 h3
 refine zl hk (N:=l.length+1) ?_
 have e:f87 (.sl 5 (T.ds l))=some (zbm l):=by unfold f87; rw [zm1 hg]; rfl
 rw [yd0,e]
 show (bif decide ((zbm l).2=61) then some (Out.ret (V.tup [V.d D.nilmap,V.d (D.int .i64 (zbm l).2)]),[]) else _)=_
 rw [zus]
 unfold Sp.wr
 cases l.all yk
 ·rfl
 ·rw [zq]
  have e1:decide ((bif true then (0:Int) else 61)=61)=false:=rfl
  rw [e1,cond_false]
  refine (z61 (l.length+1) l (qh.1 hg).1 l.length 0 (l.length+1) (by omega) (Nat.lt_succ_self _)).trans ?_
  show (bif za7 [] (nmL l) then _ else _)=_
  cases za7 [] (nmL l) <;> rfl
end Go.Vai
end

section
namespace Go.Vai
open Go.Proofs
noncomputable def f92(x:D):Option (List UInt8×Int):=zc (zim x) fun l=>some (zbm l)
theorem z1w{s:List UInt8}{L:List (List UInt8)}{j:Nat}{y:List UInt8}(hy:L[j]?=some y):Sp.mem s (L.drop j)=(decide (s=y)||Sp.mem s (L.drop (j+1))):=by
 have hlt:=(List.getElem?_eq_some_iff.1 hy).1
 rw [List.drop_eq_getElem_cons hlt]
 have:L[j]=y:=(List.getElem?_eq_some_iff.1 hy).2
 rw [this]
 show (decide (y=s)||_)=_
 by_cases h:y=s
 ·subst h; rfl
 ·rw [decide_eq_false h,decide_eq_false (fun e=>h e.symm)]; rfl
theorem z4n(n k:Nat)(l:List T)(hs:yi l=true)(i:Nat)(x:T)(hx:l[i]?=some x):∀ (d j m:Nat),j+d=i→d<m →
  LP cx (zch f92) n 56 0 8 m [(0,V.d (D.sl 5 (T.ds l))),(5,V.d (D.int .i64 (i:Int))),(6,V.d (D.int .i64 (j:Int)))] [] (AL cx (zch f92) n 56 0 5 8 (inK cx (zch f92) n 56 0 5 k (AK cx (zch f92) n 56 0 5 (EK cx 56 0)))) =
   bif Sp.mem x.nm (((nmL l).take i).drop j) then some (.ret (mkI 270),[]) else LP cx (zch f92) n 56 0 5 k [(0,V.d (D.sl 5 (T.ds l))),(5,V.d (D.int .i64 ((i+1:Nat):Int)))] [] (AK cx (zch f92) n 56 0 5 (EK cx 56 0)):=by
 have hlt:i<l.length:=(List.getElem?_eq_some_iff.1 hx).1
 intro d
 induction d with
 | zero=>
  intro j m hj hm
  obtain ⟨m,rfl⟩:∃ k',m=k'+1:=⟨m - 1,by omega⟩
  obtain rfl:j=i:=by omega
  have e:((j:Int)+1)=((j+1:Nat):Int):=by omega
  rw [z6g,yy,cond_false,IntWalk.i64_in _ (by have:=yj hs; omega),e,List.drop_eq_nil_of_le (by simp only [List.length_take]; omega)]
  rfl
 | succ d ih=>
  intro j m hj hm
  obtain ⟨m,rfl⟩:∃ k',m=k'+1:=⟨m - 1,by omega⟩
  have hjl:j<l.length:=by omega
  have hy:=List.getElem?_eq_getElem hjl
  generalize l[j]=y at hy
  have hih:=ih (j+1) m (by omega) (by omega)
  have hn:((nmL l).take i)[j]?=some y.nm:=by
   rw [List.getElem?_take_of_lt (by omega)]; exact zsd hy
  have e:((j:Int)+1)=((j+1:Nat):Int):=by omega
  rw [z6g,ye (show j<i by omega),zq,ye hlt,xd,ye hjl,xd,z6,Int.toNat_natCast,hx,z1w hn]
  show (za x.d.cells 1 _)=_
  rw [yc]
  show (zb (true&&true) (za (T.ds l) (j:Int).toNat _))=_
  rw [z6,Int.toNat_natCast,hy]
  show (za y.d.cells 1 _)=_
  rw [yc]
  show (bif decide (x.nm=y.nm) then _ else _)=_
  rw [IntWalk.i64_in _ (by have:=yj hs; omega),e,hih]
  cases decide (x.nm=y.nm) <;> rfl
theorem z4o(n:Nat)(l:List T)(hs:yi l=true)(hn:l.length<n):∀ (d j k:Nat),j+d=l.length→d<k →
  LP cx (zch f92) n 56 0 5 k [(0,V.d (D.sl 5 (T.ds l))),(5,V.d (D.int .i64 (j:Int)))] [] (AK cx (zch f92) n 56 0 5 (EK cx 56 0)) =
   bif za7 ((nmL l).take j) ((nmL l).drop j) then some (.ret (mkI 270),[]) else some (.ret (mkI 0),[]):=by
 intro d
 induction d with
 | zero=>
  intro j k hj hk
  obtain ⟨k,rfl⟩:∃ k',k=k'+1:=⟨k - 1,by omega⟩
  obtain rfl:j=l.length:=by omega
  have hl:(nmL l).length=l.length:=List.length_map _
  rw [z6h,zq,yy,cond_false,List.drop_eq_nil_of_le (by omega)]
  rfl
 | succ d ih=>
  intro j k hj hk
  obtain ⟨k,rfl⟩:∃ k',k=k'+1:=⟨k - 1,by omega⟩
  have hlt:j<l.length:=by omega
  have hx:=List.getElem?_eq_getElem hlt
  generalize l[j]=x at hx
  have hnm:=zsd hx
  have hlt2:j<(nmL l).length:=by unfold nmL; rw [List.length_map]; exact hlt
  have hdr:(nmL l).drop j=x.nm::(nmL l).drop (j+1):=by
   rw [List.drop_eq_getElem_cons hlt2]
   rw [List.getElem?_eq_getElem hlt2] at hnm
   injection hnm with hnm; rw [hnm]
  have htk:(nmL l).take (j+1)=(nmL l).take j++[x.nm]:=by
   rw [List.take_succ,hnm]; rfl
  have hih:=ih (j+1) k (by omega) (by omega)
  have hin:=z4n n k l hs j x hx j 0 n (by omega) (by omega)
  rw [List.drop_zero] at hin
  rw [z6h,zq,ye hlt,cond_true]
  refine hin.trans ?_
  rw [hih,hdr,htk]
  show _=bif (Sp.mem x.nm ((nmL l).take j)||za7 ((nmL l).take j++[x.nm]) ((nmL l).drop (j+1))) then _ else _
  cases Sp.mem x.nm ((nmL l).take j) <;> rfl
theorem m56(l:List T)(hg:zdh l=true):zh cx 56 [.d (.sl 5 (T.ds l))] []=some (.ret (mkI (Sp.wr l)),[]):=by
 have hk:knows cx (zch f92).S (zh cx):=zj zo fun a q b hd h hb=>by
  obtain ⟨m,hm,hb⟩:=zd hb
  cases hb
  obtain ⟨h0,hg⟩:=zeo hm
  obtain ⟨h1,h2,h3⟩:=qh.1 hg
  rw [xk h,h0]
  exact z7b m h1 h2 h3
 refine zl hk (N:=l.length+1) ?_
 have e:f92 (.sl 5 (T.ds l))=some (zbm l):=by unfold f92; rw [zm1 hg]; rfl
 rw [ydy,e]
 show (bif decide ((zbm l).2=61) then some (Out.ret (mkI 61),[]) else _)=_
 rw [zus]
 unfold Sp.wr
 cases l.all yk
 ·rfl
 ·have e1:decide ((bif true then (0:Int) else 61)=61)=false:=rfl
  rw [e1,cond_false]
  refine (z4o (l.length+1) l (qh.1 hg).1 (Nat.lt_succ_self _) l.length 0 (l.length+1) (by omega) (Nat.lt_succ_self _)).trans ?_
  show (bif za7 [] (nmL l) then _ else _)=_
  cases za7 [] (nmL l) <;> rfl
def zef(names:List (List UInt8))(t:T):List Nat:=qi (fun k=>Sp.mem (names.getD k []) (xr [] [] t.kids)) names.length
def zxl(l:List T):List (List Nat):=l.map (zef (nmL l))
def y6(l:List (List Nat)):List D:=l.map fun u=>.sl 1 (nI u)
end Go.Vai
end

section
namespace Go.Vai
open Go.Proofs
theorem zp9{l:List (List UInt8)}{s:List UInt8}(h:l.Nodup):(Sp.put l s).Nodup:=by
 unfold Sp.put
 cases hm:Sp.mem s l
 ·simp only [cond_false]
  rw [List.nodup_append]
  refine ⟨h,by simp,fun a ha b hb=>?_⟩
  rw [List.mem_singleton] at hb
  subst hb
  intro e
  subst e
  rw [mem_iff.2 ha] at hm
  cases hm
 ·exact h
mutual
theorem zq4:∀ (t:T) (b acc:List (List UInt8)),acc.Nodup→(y5 t b acc).Nodup
 | .mk k nm kids nms _,b,acc,h=>by
  unfold y5
  cases decide (k=1)
  ·exact zn5 kids k nms b 0 acc h
  ·simp only [cond_true]
   cases Sp.mem nm b||Sp.word nm
   ·exact zp9 h
   ·exact h
theorem zn5:∀ (l:List T) (k:Int) (nms b:List (List UInt8)) (i:Nat) (acc:List (List UInt8)),acc.Nodup→(vc l k nms b i acc).Nodup
 | [],k,nms,b,i,acc,h=>by simpa [vc] using h
 | t::r,k,nms,b,i,acc,h=>by
  unfold vc
  refine zn5 r k nms b (i+1) _ ?_
  cases (decide (k=7)&&decide (i=1))||(decide (k=11)&&decide (i=0))
  ·exact zq4 t _ acc h
  ·exact h
end
theorem zn6{b:List (List UInt8)}:∀ (l:List T) {acc:List (List UInt8)},acc.Nodup→(xr b acc l).Nodup
 | [],acc,h=>h
 | t::l,acc,h=>zn6 l (zq4 t b acc h)
theorem zul{b:List (List UInt8)}:∀ (l:List T) (acc:List (List UInt8)),(xr b acc l).length≤acc.length+xa l
 | [],acc=>by simp [xr]
 | t::l,acc=>by
  have h1:=zul (b:=b) l (y5 t b acc)
  have h2:=zdp t b acc
  simp only [xa]
  show (xr b (y5 t b acc) l).length≤_
  omega
theorem zoe:∀ (r seen:List (List UInt8)),seen.Nodup→za7 seen r=false→(seen++r).Nodup
 | [],seen,h,_=>by rwa [List.append_nil]
 | s::r,seen,h,hd=>by
  unfold za7 at hd
  rw [Bool.or_eq_false_iff] at hd
  have h1:(seen++[s]).Nodup:=by
   have:=zp9 (s:=s) h
   unfold Sp.put at this
   rw [hd.1] at this
   exact this
  have:=zoe r (seen++[s]) h1 hd.2
  rwa [List.append_assoc] at this
def zje(names:List (List UInt8))(s:List UInt8):Option Nat:=y0 (fun t=>decide (s=t)) names 0
theorem zi3{p:List UInt8→Bool}:∀ {l:List (List UInt8)} {i j:Nat},y0 p l i=some j→∃ d x,j=i+d∧l[d]?=some x∧p x=true
 | [],i,j,h=>by cases h
 | x::r,i,j,h=>by
  unfold y0 at h
  cases hp:p x <;> rw [hp] at h
  ·simp only [cond_false] at h
   obtain ⟨d,y,h1,h2,h3⟩:=zi3 h
   exact ⟨d+1,y,by omega,by simpa using h2,h3⟩
  ·simp only [cond_true] at h
   cases h
   exact ⟨0,x,rfl,rfl,hp⟩
theorem zur{s:List UInt8}:∀ {l:List (List UInt8)} {i d:Nat},l.Nodup→l[d]?=some s→y0 (fun t=>decide (s=t)) l i=some (i+d)
 | [],i,d,_,h=>by simp at h
 | x::r,i,d,hn,h=>by
  unfold y0
  rw [List.nodup_cons] at hn
  rcases d with _ | d
  ·simp at h; subst h
   rw [decide_eq_true rfl]; rfl
  ·simp only [List.getElem?_cons_succ] at h
   have:s ≠ x:=fun e=>hn.1 (e ▸ List.mem_of_getElem? h)
   rw [decide_eq_false this,cond_false,zur hn.2 h]
   congr 1; omega
theorem zs4{names:List (List UInt8)}(hn:names.Nodup){s:List UInt8}{k:Nat}:zje names s=some k↔names[k]?=some s:=by
 unfold zje
 constructor
 ·intro h
  obtain ⟨d,x,h1,h2,h3⟩:=zi3 h
  have:=of_decide_eq_true h3
  subst this
  rw [h1,Nat.zero_add]; exact h2
 ·intro h
  rw [zur hn h,Nat.zero_add]
theorem zqp(s:List UInt8):∀ (names:List (List UInt8)) (i:Nat),qr (.str s) (names.map .str) i=some (y0 (fun t=>decide (s=t)) names i)
 | [],i=>rfl
 | x::r,i=>by
  show (bif decide (s=x) then some (some i) else qr (.str s) (r.map .str) (i+1))=some (bif decide (s=x) then some i else y0 _ r (i+1))
  rw [zqp s r (i+1)]
  cases decide (s=x) <;> rfl
def zln(names:List (List UInt8))(us:List Nat)(s:List UInt8):List Nat:=match zje names s with | some i=>us++[i] | none=>us
theorem zye(names:List (List UInt8)):∀ (N:List (List UInt8)) (us:List Nat),N.foldl (zln names) us=us++N.filterMap (zje names)
 | [],us=>by simp
 | s::N,us=>by
  rw [List.foldl_cons,zye names N,List.filterMap_cons]
  unfold zln
  cases zje names s <;> simp
theorem z2j{names N:List (List UInt8)}(hn:names.Nodup)(hN:N.Nodup) :
  vd ((N.foldl (zln names) []).map fun k:Nat=>(k:Int))=(qi (fun k=>Sp.mem (names.getD k []) N) names.length).map fun k:Nat=>(k:Int):=by
 rw [zye,List.nil_append]
 refine z1d ?_ fun k=>?_
 ·unfold List.Nodup
  rw [List.pairwise_filterMap]
  refine hN.imp fun {a a'} hab b hb b' hb' e=>hab ?_
  subst e
  have h1:=(zs4 hn).1 hb
  have h2:=(zs4 hn).1 hb'
  rw [h1] at h2
  cases h2; rfl
 ·rw [List.mem_filterMap]
  constructor
  ·rintro ⟨s,hs,he⟩
   have h1:=(zs4 hn).1 he
   have h2:=(List.getElem?_eq_some_iff.1 h1).1
   refine ⟨h2,?_⟩
   rw [List.getD_eq_getElem?_getD,h1]
   exact mem_iff.2 hs
  ·rintro ⟨h1,h2⟩
   have h3:=List.getElem?_eq_getElem h1
   rw [List.getD_eq_getElem?_getD,h3] at h2
   exact ⟨names[k],mem_iff.1 h2,(zs4 hn).2 h3⟩
theorem zug(x:Int):∀ l:List Int,(zhf x l).length=l.length+1
 | []=>rfl
 | y::l=>by
  unfold zhf
  cases decide (x≤y)
  ·simp only [cond_false,List.length_cons,zug x l]
  ·rfl
theorem zp6:∀ l:List Int,(vd l).length=l.length
 | []=>rfl
 | x::l=>by simp only [vd,zug,zp6 l,List.length_cons]
theorem zuf:∀ us:List Nat,zj5 (nI us)=some (us.map fun k:Nat=>(k:Int))
 | []=>rfl
 | u::us=>by
  show (match zj5 (nI us) with | some l=>some ((u:Int)::l) | none=>none)=_
  rw [zuf us]; rfl
theorem m49(l:List D)(zs:List Int)(hz:zj5 l=some zs)(h:l.length≤4294967296):zh cx 49 [.slo 0 1 l.length] [(0,.row l)]=some (.ret (.tup []),[(0,.row ((vd zs).map (.int .i64)))]):=by
 cases l with
 | nil=>cases hz; exact zhd (n:=10) (by kernel_rfl)
 | cons x r=>
  refine zhd (n:=1) ?_
  have e:zj0 [.slo 0 1 (x::r).length] [(0,.row (x::r))]=some (.ret (.tup []),[(0,.row ((vd zs).map (.int .i64)))]):=by
   show zb (Nat.beq (x::r).length (x::r).length&&decide ((x::r).length≤4294967296)&&true) (zc (zj5 (x::r)) _)=_
   rw [Nat.beq_refl,decide_eq_true h,hz]; rfl
  have e2:cx.nat 49 [.slo 0 1 (x::r).length] [(0,.row (x::r))]=zj0 [.slo 0 1 (x::r).length] [(0,.row (x::r))]:=rfl
  unfold w8 za8
  rw [e2,e]
end Go.Vai
end

section
namespace Go.Vai
open Go.Proofs
noncomputable def zez(x:D):Option (List D×List D):=zc (zim x) fun l=>zb (decide (Sp.wr l=0)) (some ((nmL l).map .str,nI (List.range l.length)))
noncomputable def z1p(x:D):Option Int:=zc (zim x) fun l=>zb (!decide (Sp.wr l=0)) (some (Sp.wr l))
def okA(l:List T):Bool:=yi l&&T.oks l&&(l.all fun t=>Sp.right t||Sp.elem t)&&decide (xa l<2147483648)
noncomputable def zdl(x:D):Option (List D):=zc (vu Sp.toC x) fun l=>zb (okA l) (some ((xr [] [] l).map .str))
def s49(l:List D):Option (List D):=zc (zj5 l) fun zs=>zb (decide (l.length≤4294967296)) (some ((vd zs).map (.int .i64)))
theorem zm5{a:List V}{x:D}{b:List D}(h:qn a=some x)(hb:zdl x=some b):zh cx 52 a []=some (.ret (.d (.sl 1 b)),[]):=by
 obtain ⟨m,hm,hb⟩:=zd hb
 obtain ⟨ho,hb⟩:=ze hb
 cases hb
 obtain ⟨d,rfl,h2,_⟩:=zem hm
 unfold okA at ho
 rw [Bool.and_eq_true,Bool.and_eq_true,Bool.and_eq_true] at ho
 rw [xk h,(zfq (fun x t h=>(xe h).1) h2).1]
 exact m52 m ho.1.1.1 ho.1.1.2 (List.all_eq_true.1 ho.1.2) (of_decide_eq_true ho.2)
theorem zxp{l:List T}(h:okA l=true):zdl (.sl 5 (T.ds l))=some ((xr [] [] l).map .str):=by
 have ho:=h
 unfold okA at ho
 rw [Bool.and_eq_true,Bool.and_eq_true,Bool.and_eq_true] at ho
 unfold zdl
 rw [zm0 (fun t ht=>zdf (wn ho.1.1.2 ht)) ho.1.1.1]
 show zb (okA l) _=_
 rw [h]; rfl
theorem zxd{S:CK R1}(hS:knows cx S.S (zh cx)):knows cx (ycd s49 S).S (zh cx):=v6 hS fun a σ q r hd h=>by
 obtain ⟨l,n⟩:=q
 unfold z23 at hd
 split at hd
 ·cases hd
  obtain ⟨l',hl,h⟩:=zd h
  obtain ⟨hn,h⟩:=ze h
  cases h
  obtain ⟨zs,hz,hl⟩:=zd hl
  obtain ⟨h1,hl⟩:=ze hl
  cases hl
  have hn:n=l.length:=Nat.eq_of_beq_eq_true hn
  subst hn
  exact m49 l zs hz (of_decide_eq_true h1)
 ·cases hd
theorem zxf:knows cx (zai zez zdl s49).S (zh cx):=
 zj (zj (zxd zo) fun a q b hd h hb=>zm5 h hb) fun a q b hd h hb=>by
  obtain ⟨l,hl,hb⟩:=zd hb
  obtain ⟨h1,hb⟩:=ze hb
  cases hb
  obtain ⟨h0,hg⟩:=zeo hl
  rw [xk h,h0,m51 l hg,h1]
  rfl
theorem zxg:knows cx (z5n z1p).S (zh cx):=
 zj zo fun a q b hd h hb=>by
  obtain ⟨l,hl,hb⟩:=zd hb
  obtain ⟨h1,hb⟩:=ze hb
  cases hb
  obtain ⟨h0,hg⟩:=zeo hl
  have h2:decide (Sp.wr l=0)=false:=by simpa using h1
  rw [xk h,h0,m51 l hg,h2]
  rfl
theorem wr0{l:List T}(h:Sp.wr l=0):l.all yk=true∧(nmL l).Nodup:=by
 unfold Sp.wr at h
 cases h1:l.all yk <;> rw [h1] at h
 ·simp at h
 ·cases h2:za7 [] (nmL l) <;> rw [h2] at h
  ·exact ⟨rfl,by have:=zoe (nmL l) [] List.nodup_nil h2; rwa [List.nil_append] at this⟩
  ·simp at h
theorem zrf{t:T}(h:yk t=true):∃ a b,t.kids=[a,b]∧Sp.right a=true∧Sp.right b=true:=by
 obtain ⟨k,nm,kids,nms,pl⟩:=t
 unfold yk at h
 split at h
 ·rename_i he
  cases he
  rw [Bool.and_eq_true,Bool.and_eq_true,Bool.and_eq_true] at h
  exact ⟨_,_,rfl,h.1.2,h.2⟩
 ·cases h
theorem zub{t:T}(h:t.ok=true):T.oks t.kids=true∧yi t.kids=true:=by
 obtain ⟨k,nm,kids,nms,pl⟩:=t
 simp only [T.ok,Bool.and_eq_true] at h
 exact ⟨h.2,h.1.1.1.2⟩
theorem zk9(t:T):xa t.kids<Sp.cnt t:=by
 obtain ⟨k,nm,kids,nms,pl⟩:=t
 simp only [Sp.cnt,T.kids]; omega
theorem z1r{l:List T}(hg:zdh l=true)(hd:l.all yk=true){t:T}(ht:t∈l):okA t.kids=true:=by
 obtain ⟨h1,h2,h3⟩:=qh.1 hg
 obtain ⟨a,b,he,ha,hb⟩:=zrf (List.all_eq_true.1 hd t ht)
 obtain ⟨h4,h5⟩:=zub (wn h2 ht)
 have h6:=zk9 t
 have h7:=zhi t
 have h8:=zc9 ht
 unfold okA
 rw [h4,h5,decide_eq_true (p:=xa t.kids<2147483648) (by omega),he]
 simp [ha,hb]
theorem zwh{R α S:Type}(L:Nat→Int→S→Option R)(xs:List α)(step:S→α→S)(I:Nat→S→Prop)(E:S→Option R)(hs:xs.length<4294967296)
  (H:∀ (k j:Nat) x s,j<xs.length→xs[j]?=some x→I j s→L (k+1) j s=L k (IntKind.i64.wrap ((j:Int)+1)) (step s x)∧I (j+1) (step s x)) (HE:∀ k s,I xs.length s→L (k+1) xs.length s=E s) {s:S} (h0:I 0 s) {k:Nat} (hk:xs.length<k) :
  L k 0 s=E (xs.foldl step s):=by
 have key:∀ (d j:Nat) (k:Nat) (s:S),j+d=xs.length→d<k→I j s→L k j s=E ((xs.drop j).foldl step s):=by
  intro d
  induction d with
  | zero=>
   intro j k s hj hk hi
   obtain ⟨k,rfl⟩:∃ k',k=k'+1:=⟨k - 1,by omega⟩
   obtain rfl:j=xs.length:=by omega
   rw [HE _ _ hi,List.drop_length]; rfl
  | succ d ih=>
   intro j k s hj hk hi
   obtain ⟨k,rfl⟩:∃ k',k=k'+1:=⟨k - 1,by omega⟩
   have hlt:j<xs.length:=by omega
   obtain ⟨h1,h2⟩:=H k j xs[j] s hlt (List.getElem?_eq_getElem hlt) hi
   rw [h1,IntWalk.i64_in _ (by omega)]
   have e:((j:Int)+1)=((j+1:Nat):Int):=by omega
   rw [e,ih (j+1) k _ (by omega) (by omega) h2,List.drop_eq_getElem_cons hlt]
   rfl
 have:=key xs.length 0 k s (by omega) hk h0
 rw [List.drop_zero] at this
 exact this
theorem z6r(us:List Nat)(h:us.length≤4294967296):s49 (nI us)=some ((vd (us.map fun k:Nat=>(k:Int))).map (.int .i64)):=by
 unfold s49
 rw [zuf]
 show zb (decide ((nI us).length≤4294967296)) _=_
 rw [decide_eq_true (by unfold nI; rw [List.length_map]; exact h)]
 rfl
theorem z4r(n k:Nat)(l:List T)(names:List (List UInt8))(hnl:names.length<4294967296)(L:List D)(hL:L.length<4294967295)(b:List (List UInt8))(hb:yi b=true)(hbn:b.length<n)(hn:names.Nodup)(hbd:b.Nodup)(i:Int) :
  LP cx (zai zez zdl s49) n 24 0 10 n [(4,V.d (D.map (names.map .str) (nI (List.range names.length)))),(6,V.sl 1 L 6),(9,V.slo 9 1 0),(22,V.d (D.sl 5 (T.ds l))),(23,V.d (D.int .i64 (l.length:Int))),(24,V.d (D.int .i64 i)),(30,V.d (D.sl 1 (b.map .str))),(31,V.d (D.int .i64 (b.length:Int))),(32,V.d (D.int .i64 0))] [(6,Ob.tok L.length),(9,Ob.row [])] (AL cx (zai zez zdl s49) n 24 0 6 10 (inK cx (zai zez zdl s49) n 24 0 6 k (AK cx (zai zez zdl s49) n 24 0 6 (EK cx 24 0)))) =
  LP cx (zai zez zdl s49) n 24 0 6 k [(4,V.d (D.map (names.map .str) (nI (List.range names.length)))),(6,V.sl 1 (L++[D.sl 1 (nI (qi (fun k=>Sp.mem (names.getD k []) b) names.length))]) 6),(22,V.d (D.sl 5 (T.ds l))),(23,V.d (D.int .i64 (l.length:Int))),(24,V.d (D.int .i64 (IntKind.i64.wrap (i+1))))] [(6,Ob.tok (L++[D.sl 1 (nI (qi (fun k=>Sp.mem (names.getD k []) b) names.length))]).length)] (AK cx (zai zez zdl s49) n 24 0 6 (EK cx 24 0)):=by
 have h:=zwh (fun m j (us:List Nat)=>LP cx (zai zez zdl s49) n 24 0 10 m [(4,V.d (D.map (names.map .str) (nI (List.range names.length)))),(6,V.sl 1 L 6),(9,V.slo 9 1 (nI us).length),(22,V.d (D.sl 5 (T.ds l))),(23,V.d (D.int .i64 (l.length:Int))),(24,V.d (D.int .i64 i)),(30,V.d (D.sl 1 (b.map .str))),(31,V.d (D.int .i64 (b.length:Int))),(32,V.d (D.int .i64 j))] [(6,Ob.tok L.length),(9,Ob.row (nI us))] (AL cx (zai zez zdl s49) n 24 0 6 10 (inK cx (zai zez zdl s49) n 24 0 6 k (AK cx (zai zez zdl s49) n 24 0 6 (EK cx 24 0)))))
  b (zln names) (fun j us=>us.length≤j)
  (fun us=>LP cx (zai zez zdl s49) n 24 0 6 k [(4,V.d (D.map (names.map .str) (nI (List.range names.length)))),(6,V.sl 1 (L++[D.sl 1 ((vd (us.map fun k:Nat=>(k:Int))).map (.int .i64))]) 6),(22,V.d (D.sl 5 (T.ds l))),(23,V.d (D.int .i64 (l.length:Int))),(24,V.d (D.int .i64 (IntKind.i64.wrap (i+1))))] [(6,Ob.tok (L.length+[D.sl 1 ((vd (us.map fun k:Nat=>(k:Int))).map (.int .i64))].length))] (AK cx (zai zez zdl s49) n 24 0 6 (EK cx 24 0)))
  (yj hb)
  (fun m j s us hj hs hi=>by
   have hu:(nI us).length=us.length:=by unfold nI; rw [List.length_map]
   have hjb:=yj hb
   refine ⟨?_,?_⟩
   ·refine (z6k zez zdl s49 n k m l (names.map .str) (nI (List.range names.length)) L (nI us) b i j).trans ?_
    rw [List.length_map,ye hj,xd,xi,Int.toNat_natCast,hs]
    show (zc (qr (D.str s) (names.map .str) 0) _)=_
    rw [zqp]
    unfold zln zje
    cases hf:y0 (fun t=>decide (s=t)) names 0 with
    | none=>rfl
    | some d=>
     obtain ⟨e,x,h1,h2,_⟩:=zi3 hf
     have h3:=(List.getElem?_eq_some_iff.1 h2).1
     have h4:nI (us++[d])=nI us++[D.int .i64 (d:Int)]:=by unfold nI; rw [List.map_append]; rfl
     simp only
     show (za (nI (List.range names.length)) d fun y=>_)=_
     rw [zsa,List.getElem?_range (by omega)]
     show zb (Nat.beq (nI us).length (nI us).length&&decide ((nI us).length+[D.int .i64 (d:Int)].length≤4294967296)) _=_
     rw [Nat.beq_refl,decide_eq_true (p:=(nI us).length+[D.int .i64 (d:Int)].length≤4294967296) (by rw [hu]; simp only [List.length_cons,List.length_nil]; omega),h4,List.length_append]
     rfl
   ·unfold zln
    cases zje names s with
    | none=>simp only; omega
    | some d=>simp only [List.length_append,List.length_cons,List.length_nil]; omega)
  (fun m us hi=>by
   refine (z6k zez zdl s49 n k m l (names.map .str) (nI (List.range names.length)) L (nI us) b i b.length).trans ?_
   have hjb:=yj hb
   rw [yy,cond_false]
   show (zc (s49 (nI us)) _)=_
   rw [z6r us (by omega)]
   have e5:((vd (us.map fun k:Nat=>(k:Int))).map (D.int .i64)).length=(nI us).length:=by unfold nI; rw [List.length_map,zp6,List.length_map,List.length_map]
   show zb (Nat.beq (nI us).length (nI us).length) (zb (Nat.beq (nI us).length ((vd (us.map fun k:Nat=>(k:Int))).map (D.int .i64)).length) (zb (decide (L.length=L.length)&&decide (L.length+[D.sl 1 ((vd (us.map fun k:Nat=>(k:Int))).map (D.int .i64))].length≤4294967296)) _))=_
   rw [e5,Nat.beq_refl,decide_eq_true (p:=L.length=L.length) rfl,decide_eq_true (p:=L.length+[D.sl 1 ((vd (us.map fun k:Nat=>(k:Int))).map (D.int .i64))].length≤4294967296) (by simp only [List.length_cons,List.length_nil]; omega)]
   rfl) (s:=[]) (Nat.le_refl _) (k:=n) hbn
 refine h.trans ?_
 rw [z2j hn hbd]
 have e:((qi (fun k=>Sp.mem (names.getD k []) b) names.length).map fun k:Nat=>(k:Int)).map (D.int .i64)=nI (qi (fun k=>Sp.mem (names.getD k []) b) names.length):=by
  unfold nI; rw [List.map_map]; rfl
 rw [e,List.length_append]
theorem zjk{α:Type}{l:List α}(h:l.length<4294967296):yi l=true:=decide_eq_true h
theorem zms(l:List T):(nmL l).length=l.length:=List.length_map _
theorem zp1(a:List (List Nat))(u:List Nat):y6 (a++[u])=y6 a++[D.sl 1 (nI u)]:=by unfold y6; rw [List.map_append]; rfl
theorem zle{α β:Type}(f:α→β):∀ (l:List α) (acc:List β),l.foldl (fun a x=>a++[f x]) acc=acc++l.map f
 | [],acc=>by simp
 | x::l,acc=>by rw [List.foldl_cons,zle f l]; simp
def mkU(q:List (List Nat)×Int):V:=.tup [.d (.sl 1 (y6 q.1)),.d (.int .i64 q.2)]
def vt(l:List T):List (List Nat)×Int:=bif decide (Sp.wr l=0) then (zxl l,0) else ([],Sp.wr l)
theorem m24(l:List T)(hg:zdh l=true):zh cx 24 [.d (.sl 5 (T.ds l))] []=some (.ret (mkU (vt l)),[]):=by
 unfold vt
 obtain ⟨h1,h2,h3⟩:=qh.1 hg
 have hlb:=zk5 l
 cases hw:decide (Sp.wr l=0)
 ·refine zl zxg (N:=0) ?_
  have e:z1p (.sl 5 (T.ds l))=some (Sp.wr l):=by
   unfold z1p; rw [zm1 hg]
   show zb (!decide (Sp.wr l=0)) _=_
   rw [hw]; rfl
  rw [yb4,e]
  show (bif !decide (Sp.wr l=0) then _ else _)=_
  rw [hw]
  rfl
 ·have hw0:=of_decide_eq_true hw
  obtain ⟨hd,hn⟩:=wr0 hw0
  obtain ⟨N,hN⟩:∃ N,N=l.length+65537:=⟨_,rfl⟩
  refine zl zxf (N:=N) ?_
  have e:zez (.sl 5 (T.ds l))=some ((nmL l).map .str,nI (List.range l.length)):=by
   unfold zez; rw [zm1 hg]
   show zb (decide (Sp.wr l=0)) _=_
   rw [hw]; rfl
  rw [yd8,e,zq]
  have h:=zh3 (fun k j (us:List (List Nat))=>LP cx (zai zez zdl s49) N 24 0 6 k [(4,V.d (D.map ((nmL l).map .str) (nI (List.range (nmL l).length)))),(6,V.sl 1 (y6 us) 6),(22,V.d (D.sl 5 (T.ds l))),(23,V.d (D.int .i64 (l.length:Int))),(24,V.d (D.int .i64 j))] [(6,Ob.tok (y6 us).length)] (AK cx (zai zez zdl s49) N 24 0 6 (EK cx 24 0)))
   l (fun a t=>a++[zef (nmL l) t]) (fun j us=>us.length≤j) (fun us=>some (.ret (mkU (us,0)),[])) (yj h1)
   (fun k j x us hj hx hi=>by
    have hmem:=List.mem_of_getElem? hx
    have ho:=z1r hg hd hmem
    have hjb:=yj h1
    have hud:(y6 us).length=us.length:=by unfold y6; rw [List.length_map]
    have hgl:=zul (b:=[]) x.kids []
    have hc1:=zk9 x
    have hc2:=zhi x
    have hc3:=zc9 hmem
    have hin:=z4r N k l (nmL l) (by rw [zms]; omega) (y6 us) (by omega) (xr [] [] x.kids) (zjk (by simp only [List.length_nil] at hgl; omega)) (by simp only [List.length_nil] at hgl; omega) hn (zn6 x.kids List.nodup_nil) j
    refine ⟨?_,by simp only [List.length_append,List.length_cons,List.length_nil]; omega⟩
    refine (yby zez zdl s49 _ k l ((nmL l).map .str) (nI (List.range (nmL l).length)) (y6 us) j).trans ?_
    rw [ye hj,zq,ye hj,xd,z6,Int.toNat_natCast,hx]
    rw [cond_true,zd6,yc]
    simp only [x5,w7,w0,wz,wy,zix,Bool.and_self]
    rw [zfa,Bool.true_or,cond_true,zxp ho]
    rw [zd6,List.length_map,zp1]
    exact hin)
   (fun k us=>by
    refine (yby zez zdl s49 _ k l ((nmL l).map .str) (nI (List.range (nmL l).length)) (y6 us) l.length).trans ?_
    rw [yy,cond_false]
    rfl) (s:=[]) (Nat.le_refl _) (k:=N) (by omega)
  rw [zle,List.nil_append,zms] at h
  exact h
end Go.Vai
end

section
namespace Go.Vai
open Go.Proofs
theorem m57(l:List T)(hg:zdh l=true)(hd:l.all yk=true)(i k:Nat)(t u:T)(ht:l[i]?=some t)(hu:l[k]?=some u):zh cx 57 [.d (.sl 5 (T.ds l)),.d (.int .i64 i),.d (.int .i64 k)] []=some (.ret (mkB (Sp.mem u.nm (xr [] [] t.kids))),[]):=by
 have hk:knows cx (ycc (zaq (T.depths l)) p93).S (zh cx):=zkq (m60 _) (zj zo fun a q b hd h hb=>zky h hb)
 refine zl hk (N:=0) ?_
 obtain ⟨h1,h2,h3⟩:=qh.1 hg
 have htm:=List.mem_of_getElem? ht
 obtain ⟨a,b,he,ha,hb⟩:=zrf (List.all_eq_true.1 hd t htm)
 have hok:=(zub (wn h2 htm)).1
 have hc1:=zk9 t
 have hc2:=zhi t
 have hc3:=zc9 htm
 have hdep:=zeb htm
 have hdk:T.depths t.kids<t.depth:=by obtain ⟨_,_,_,_,_⟩:=t; simp only [T.depth,T.kids]; omega
 rw [he] at hok hc1 hdk
 simp only [T.oks,Bool.and_eq_true] at hok
 simp only [xa] at hc1
 simp only [T.depths] at hdk
 have hga:=zdp a [] []
 simp only [List.length_nil] at hga
 have e1:=zmq (m:=T.depths l) (t:=a) (b:=[]) (l:=[]) (by omega) hok.1 (za2.2 ⟨by rw [ha]; rfl,by simp only [List.length_nil]; omega,by simp only [List.length_nil]; omega⟩)
 have e2:=zmq (m:=T.depths l) (t:=b) (b:=[]) (l:=y5 a [] []) (by omega) hok.2.1 (za2.2 ⟨by rw [hb]; rfl,by simp only [List.length_nil]; omega,by omega⟩)
 have hgb:=zdp b [] (y5 a [] [])
 have e3:p93 (.sl 1 ((y5 b [] (y5 a [] [])).map .str)) u.nm=some (Sp.mem u.nm (y5 b [] (y5 a [] []))):=by
  unfold p93; rw [zcn (zjk (by omega))]; rfl
 have hi:=(List.getElem?_eq_some_iff.1 ht).1
 have hk2:=(List.getElem?_eq_some_iff.1 hu).1
 have e4:xr [] [] t.kids=y5 b [] (y5 a [] []):=by rw [he]; rfl
 rw [e4]
 refine (ydx (zaq (T.depths l)) p93 0 l i k).trans ?_
 have z0:((0:Int)<(((T.ds [a,b]).length:Nat):Int)):=by simp only [zq,List.length_cons]; omega
 have z1:((1:Int)<(((T.ds [a,b]).length:Nat):Int)):=by simp only [zq,List.length_cons,List.length_nil]; omega
 have n0:(0:Int).toNat=0:=rfl
 have n1:(1:Int).toNat=1:=rfl
 have g0:[a,b][0]?=some a:=rfl
 have g1:[a,b][1]?=some b:=rfl
 simp only [zq l,ye hi,ye hk2,xd,Bool.and_self,zix,z6,Int.toNat_natCast,ht,hu,zd6,yc,x5,w7,w0,wz,wy,zfa,Bool.true_or,cond_true,he,decide_eq_true z0,decide_eq_true z1,n0,n1,g0,g1,wd]
 have e1':zaq (T.depths l) (D.sl 1 []) a.d (D.sl 1 [])=some ((y5 a [] []).map .str):=e1
 have e2':zaq (T.depths l) (D.sl 1 ((y5 a [] []).map .str)) b.d (D.sl 1 [])=some ((y5 b [] (y5 a [] [])).map .str):=e2
 simp only [e1',zd6,e2',e3]
 rfl
noncomputable def w29(x:D):Option Int:=zc (zim x) fun l=>some (Sp.wr l)
noncomputable def u29(x:D)(i k:Int):Option Bool:=zc (zim x) fun l=>zb (l.all yk&&decide (0≤i)&&decide (0≤k)) (zc l[i.toNat]? fun t=>zc l[k.toNat]? fun u=>some (Sp.mem u.nm (xr [] [] t.kids)))
theorem zu2{a:List V}{q}(h:zws a=some q):a=[.d q.1,.d (.int .i64 q.2.1),.d (.int .i64 q.2.2)]:=by
 unfold zws at h; split at h <;> cases h; rfl
theorem zxe:knows cx (zbg w29 u29).S (zh cx):=
 zj (zj zo fun a q b hd h hb=>by
  obtain ⟨l,hl,hb⟩:=zd hb
  obtain ⟨h1,hb⟩:=ze hb
  obtain ⟨t,ht,hb⟩:=zd hb
  obtain ⟨u,hu,hb⟩:=zd hb
  cases hb
  obtain ⟨h0,hg⟩:=zeo hl
  rw [Bool.and_eq_true,Bool.and_eq_true] at h1
  have hi:=of_decide_eq_true h1.1.2
  have hk:=of_decide_eq_true h1.2
  have:=m57 l hg h1.1.1 q.2.1.toNat q.2.2.toNat t u ht hu
  rw [Int.toNat_of_nonneg hi,Int.toNat_of_nonneg hk] at this
  rw [zu2 h,h0]
  exact this) fun a q b hd h hb=>by
  obtain ⟨l,hl,hb⟩:=zd hb
  cases hb
  obtain ⟨h0,hg⟩:=zeo hl
  rw [xk h,h0]
  exact m56 l hg
theorem z1g(p:Nat→Bool)(j:Nat):qi p (j+1)=bif p j then qi p j++[j] else qi p j:=by
 unfold qi
 rw [List.range_succ,List.filter_append]
 cases h:p j <;> simp [h]
theorem zxs(p:Nat→Bool)(j:Nat):(qi p j).length≤j:=by
 unfold qi
 exact Nat.le_trans (List.length_filter_le ..) (by rw [List.length_range]; exact Nat.le_refl _)
theorem z4q(n k:Nat)(l:List T)(hg:zdh l=true)(hd:l.all yk=true)(L:List D)(hL:L.length<4294967295)(i:Nat)(t:T)(ht:l[i]?=some t):∀ (d j m:Nat),j+d=l.length→d<m →
  LP cx (zbg w29 u29) n 29 0 10 m [(0,V.d (D.sl 5 (T.ds l))),(5,V.sl 1 L 5),(6,V.d (D.int .i64 (i:Int))),(7,V.sl 1 (nI (qi (fun k=>Sp.mem ((nmL l).getD k []) (xr [] [] t.kids)) j)) 7),(8,V.d (D.int .i64 (j:Int)))] [(5,Ob.tok L.length),(7,Ob.tok (nI (qi (fun k=>Sp.mem ((nmL l).getD k []) (xr [] [] t.kids)) j)).length)] (AL cx (zbg w29 u29) n 29 0 6 10 (inK cx (zbg w29 u29) n 29 0 6 k (AK cx (zbg w29 u29) n 29 0 6 (EK cx 29 0)))) =
  LP cx (zbg w29 u29) n 29 0 6 k [(0,V.d (D.sl 5 (T.ds l))),(5,V.sl 1 (L++[D.sl 1 (nI (zef (nmL l) t))]) 5),(6,V.d (D.int .i64 (IntKind.i64.wrap ((i:Int)+1))))] [(5,Ob.tok (L++[D.sl 1 (nI (zef (nmL l) t))]).length)] (AK cx (zbg w29 u29) n 29 0 6 (EK cx 29 0)):=by
 have hs:=(qh.1 hg).1
 have hsl:=yj hs
 intro d
 induction d with
 | zero=>
  intro j m hj hm
  obtain ⟨m,rfl⟩:∃ k',m=k'+1:=⟨m - 1,by omega⟩
  obtain rfl:j=l.length:=by omega
  rw [z6j,zq,yy,cond_false,decide_eq_true (p:=L.length=L.length) rfl,decide_eq_true (p:=L.length+[D.sl 1 (nI (qi (fun k=>Sp.mem ((nmL l).getD k []) (xr [] [] t.kids)) l.length))].length≤4294967296) (by simp only [List.length_cons,List.length_nil]; omega)]
  unfold zef
  rw [zms,List.length_append]
  rfl
 | succ d ih=>
  intro j m hj hm
  obtain ⟨m,rfl⟩:∃ k',m=k'+1:=⟨m - 1,by omega⟩
  have hjl:j<l.length:=by omega
  have hy:=List.getElem?_eq_getElem hjl
  generalize l[j]=y at hy
  have hih:=ih (j+1) m (by omega) (by omega)
  rw [z1g] at hih
  have hnm:=zsd hy
  have hgd:(nmL l).getD j []=y.nm:=by rw [List.getD_eq_getElem?_getD,hnm]; rfl
  have e:((j:Int)+1)=((j+1:Nat):Int):=by omega
  have eu:u29 (.sl 5 (T.ds l)) (i:Int) (j:Int)=some (Sp.mem y.nm (xr [] [] t.kids)):=by
   unfold u29
   rw [zm1 hg,zd6,hd,xd,xd]
   simp only [Bool.and_self,zix,Int.toNat_natCast,ht,hy,zd6]
  have hsl2:=zxs (fun k=>Sp.mem ((nmL l).getD k []) (xr [] [] t.kids)) j
  rw [z6j,zq,ye hjl,cond_true,eu,zd6,IntWalk.i64_in _ (by omega),e]
  rw [hgd] at hih
  cases hmm:Sp.mem y.nm (xr [] [] t.kids) <;> rw [hmm] at hih
  ·exact hih
  ·rw [cond_true]
   rw [cond_true] at hih
   generalize qi (fun k=>Sp.mem ((nmL l).getD k []) (xr [] [] t.kids)) j=us at *
   have h4:nI (us++[j])=nI us++[D.int .i64 (j:Int)]:=by unfold nI; rw [List.map_append]; rfl
   have hu:(nI us).length=us.length:=by unfold nI; rw [List.length_map]
   rw [h4,List.length_append] at hih
   rw [decide_eq_true (p:=(nI us).length=(nI us).length) rfl,decide_eq_true (p:=(nI us).length+[D.int .i64 (j:Int)].length≤4294967296) (by rw [hu]; simp only [List.length_cons,List.length_nil]; omega)]
   exact hih
theorem m29(l:List T)(hg:zdh l=true):zh cx 29 [.d (.sl 5 (T.ds l))] []=some (.ret (mkU (vt l)),[]):=by
 unfold vt
 obtain ⟨h1,h2,h3⟩:=qh.1 hg
 have hlb:=zk5 l
 refine zl zxe (N:=l.length+1) ?_
 have e:w29 (.sl 5 (T.ds l))=some (Sp.wr l):=by
  unfold w29; rw [zm1 hg]; rfl
 rw [yd7,e,zd6]
 cases hw:decide (Sp.wr l=0)
 ·rfl
 ·have hw0:=of_decide_eq_true hw
  obtain ⟨hd,hn⟩:=wr0 hw0
  obtain ⟨N,hN⟩:∃ N,N=l.length+1:=⟨_,rfl⟩
  rw [←hN,Bool.not_true,cond_false]
  have h:=zh3 (fun k j (us:List (List Nat))=>LP cx (zbg w29 u29) N 29 0 6 k [(0,V.d (D.sl 5 (T.ds l))),(5,V.sl 1 (y6 us) 5),(6,V.d (D.int .i64 j))] [(5,Ob.tok (y6 us).length)] (AK cx (zbg w29 u29) N 29 0 6 (EK cx 29 0)))
   l (fun a t=>a++[zef (nmL l) t]) (fun j us=>us.length≤j) (fun us=>some (.ret (mkU (us,0)),[])) (yj h1)
   (fun k j x us hj hx hi=>by
    have hjb:=yj h1
    have hud:(y6 us).length=us.length:=by unfold y6; rw [List.length_map]
    refine ⟨?_,by simp only [List.length_append,List.length_cons,List.length_nil]; omega⟩
    refine (ybx w29 u29 N k l (y6 us) j).trans ?_
    rw [zq,ye hj,cond_true,zp1]
    exact z4q N k l hg hd (y6 us) (by omega) j x hx l.length 0 N (by omega) (by omega))
   (fun k us=>by
    refine (ybx w29 u29 N k l (y6 us) l.length).trans ?_
    rw [zq,yy,cond_false]
    rfl) (s:=[]) (Nat.le_refl _) (k:=N) (by omega)
  rw [zle,List.nil_append] at h
  exact h
def mkN(q:List (List UInt8)×Int):V:=.tup [.d (.sl 1 (q.1.map .str)),.d (.int .i64 q.2)]
def vm(t:T):List (List UInt8)×Int:=bif Sp.right t then (y5 t [] [],0) else ([],61)
noncomputable def r58(x:D):Option Int:=zc (Sp.toC x) fun t=>some (bif Sp.right t then 0 else 61)
noncomputable def r59(x:D):Option Bool:=zc (Sp.toC x) fun t=>some (Sp.right t)
theorem m30(t:T)(ho:t.ok=true)(hc:Sp.cnt t<2147483648):zh cx 30 [.d t.d] []=some (.ret (mkN (vm t)),[]):=by
 have hk:knows cx (ycg r58 zdl).S (zh cx):=zj (zj zo fun a q b hd h hb=>zm5 h hb) fun a q b hd h hb=>by
  obtain ⟨m,hm,hb⟩:=zd hb
  cases hb
  obtain ⟨h0,hg⟩:=xe hm
  rw [xk h,h0]
  exact z14 m hg
 refine zl hk (N:=0) ?_
 obtain ⟨k,nm,kids,nms,pl⟩:=t
 rw [yd6]
 unfold vm
 have e:r58 (T.mk k nm kids nms pl).d=some (bif Sp.right (T.mk k nm kids nms pl) then 0 else 61):=by unfold r58; rw [zdf ho]; rfl
 show (zc (r58 (T.mk k nm kids nms pl).d) fun b=>bif !decide (b=0) then _ else zc (zdl (.sl 5 (T.ds [T.mk k nm kids nms pl]))) _)=_
 rw [e]
 cases hr:Sp.right (T.mk k nm kids nms pl)
 ·rfl
 ·rw [zxp (by unfold okA; simp [yi,T.oks,ho,hr,xa,hc])]
  rfl
theorem m31(t:T)(ho:t.ok=true)(hc:Sp.cnt t<2147483648):zh cx 31 [.d t.d] []=some (.ret (mkN (vm t)),[]):=by
 obtain ⟨m,hm⟩:∃ m,t.depth≤m:=⟨_,Nat.le_refl _⟩
 have hk:knows cx (ycf r59 (zaq m)).S (zh cx):=zj (zkq (m60 _) zo) fun a q b hd h hb=>by
  obtain ⟨m',hm',hb⟩:=zd hb
  cases hb
  obtain ⟨h0,hg⟩:=xe hm'
  rw [xk h,h0]
  exact z15 m'.depth m' (Nat.le_refl _) hg
 refine zl hk (N:=0) ?_
 have e:r59 t.d=some (Sp.right t):=by unfold r59; rw [zdf ho]; rfl
 have e2:Sp.right t=true→zaq m (.sl 1 []) t.d (.sl 1 [])=some ((y5 t [] []).map .str):=fun hr=>zmq (b:=[]) (l:=[]) hm ho (za2.2 ⟨by rw [hr]; rfl,by simpa using hc,by simpa using hc⟩)
 obtain ⟨k,nm,kids,nms,pl⟩:=t
 rw [yd5]
 unfold vm
 show (zc (r59 (T.mk k nm kids nms pl).d) fun b=>bif !b then _ else zc (zaq m (.sl 1 []) (T.mk k nm kids nms pl).d (.sl 1 [])) _)=_
 rw [e]
 cases hr:Sp.right (T.mk k nm kids nms pl)
 ·rfl
 ·rw [e2 hr]
  rfl
end Go.Vai
end

section
namespace Go.Vai
open Go.Proofs
theorem yd3(n:Nat)(l:List (List UInt8)):zk cx (CK.plain zm) n 33 [.d (.sl 1 (l.map .str)),.d (.sl 1 (l.map .str))] []=bif !decide ((↑(List.map D.str l).length:Int)=(↑(List.map D.str l).length:Int)) then some (Out.ret (V.d (D.bool false)),[]) else LP cx (CK.plain zm) n 33 0 4 n [(0,V.d (D.sl 1 (List.map D.str l))),(1,V.d (D.sl 1 (List.map D.str l))),(12,V.d (D.int .i64 (↑(List.map D.str l).length:Int))),(13,V.d (D.int .i64 (0:Int)))] [] (AK cx (CK.plain zm) n 33 0 4 (EK cx 33 0)):=by kernel_rfl
theorem ybv(n k:Nat)(l:List (List UInt8))(i:Int):LP cx (CK.plain zm) n 33 0 4 (k+1) [(0,V.d (D.sl 1 (List.map D.str l))),(1,V.d (D.sl 1 (List.map D.str l))),(12,V.d (D.int .i64 (l.length:Int))),(13,V.d (D.int .i64 i))] [] (AK cx (CK.plain zm) n 33 0 4 (EK cx 33 0))=bif decide (i<(↑l.length:Int)) then zb (decide (0≤i)&&decide (i<(↑(List.map D.str l).length:Int))) (za (List.map D.str l) i.toNat fun y=>za y.cells 0 fun c=>match c with
 | D.str s=>zb (decide (0≤i)&&decide (i<(↑(List.map D.str l).length:Int))) (za (List.map D.str l) i.toNat fun y=>za y.cells 0 fun c=>match c with
  | D.str s_1=>bif !decide (s=s_1) then some (Out.ret (V.d (D.bool false)),[]) else LP cx (CK.plain zm) n 33 0 4 k [(0,V.d (D.sl 1 (List.map D.str l))),(1,V.d (D.sl 1 (List.map D.str l))),(12,V.d (D.int .i64 (↑l.length:Int))),(13,V.d (D.int .i64 (IntKind.i64.wrap (i+(1:Int)))))] [] (AK cx (CK.plain zm) n 33 0 4 (EK cx 33 0))
  | x=>none)
 | x=>none) else some (Out.ret (V.d (D.bool true)),[]):=by kernel_rfl
theorem yd4(n:Nat)(l:List (List Nat)):zk cx (CK.plain zm) n 32 [.d (.sl 1 (y6 l)),.d (.sl 1 (y6 l))] []=bif !decide ((↑(y6 l).length:Int)=(↑(y6 l).length:Int)) then some (Out.ret (V.d (D.bool false)),[]) else LP cx (CK.plain zm) n 32 0 4 n [(0,V.d (D.sl 1 (y6 l))),(1,V.d (D.sl 1 (y6 l))),(5,V.d (D.int .i64 (0:Int)))] [] (AK cx (CK.plain zm) n 32 0 4 (EK cx 32 0)):=by kernel_rfl
theorem ybw(n k:Nat)(l:List D)(i:Int):LP cx (CK.plain zm) n 32 0 4 (k+1) [(0,V.d (D.sl 1 l)),(1,V.d (D.sl 1 l)),(5,V.d (D.int .i64 i))] [] (AK cx (CK.plain zm) n 32 0 4 (EK cx 32 0))=bif decide (i<(↑l.length:Int)) then zb (decide (0≤i)&&decide (i<(↑l.length:Int))) (za l i.toNat fun y=>za y.cells 0 fun c=>match c with
 | D.sl s l_1=>bif s.beq (cx.P.cellsOf 3)||l_1.isEmpty then zb (decide (0≤i)&&decide (i<(↑l.length:Int))) (za l i.toNat fun y=>za y.cells 0 fun c=>match c with
  | D.sl s l_2=>bif s.beq (cx.P.cellsOf 3)||l_2.isEmpty then bif !decide ((↑l_1.length:Int)=(↑l_2.length:Int)) then some (Out.ret (V.d (D.bool false)),[]) else LP cx (CK.plain zm) n 32 0 9 n [(0,V.d (D.sl 1 l)),(1,V.d (D.sl 1 l)),(5,V.d (D.int .i64 i)),(6,V.d (D.int .i64 (0:Int)))] [] (AL cx (CK.plain zm) n 32 0 4 9 (inK cx (CK.plain zm) n 32 0 4 k (AK cx (CK.plain zm) n 32 0 4 (EK cx 32 0)))) else none
  | x=>none) else none
 | x=>none) else some (Out.ret (V.d (D.bool true)),[]):=by kernel_rfl
theorem z6i(n k m:Nat)(l:List D)(i j:Int):LP cx (CK.plain zm) n 32 0 9 (m+1) [(0,V.d (D.sl 1 l)),(1,V.d (D.sl 1 l)),(5,V.d (D.int .i64 i)),(6,V.d (D.int .i64 j))] [] (AL cx (CK.plain zm) n 32 0 4 9 (inK cx (CK.plain zm) n 32 0 4 k (AK cx (CK.plain zm) n 32 0 4 (EK cx 32 0))))=zb (decide (0≤i)&&decide (i<(↑l.length:Int))) (za l i.toNat fun y=>za y.cells 0 fun c=>match c with
 | D.sl s l_1=>bif s.beq (cx.P.cellsOf 3)||l_1.isEmpty then bif decide (j<(↑l_1.length:Int)) then zb (decide (0≤i)&&decide (i<(↑l.length:Int))) (za l i.toNat fun y=>za y.cells 0 fun c=>match c with
  | D.sl s l_2=>bif s.beq (cx.P.cellsOf 3)||l_2.isEmpty then zb (decide (0≤j)&&decide (j<(↑l_2.length:Int))) (za l_2 j.toNat fun y=>za y.cells 0 fun c=>match c with
   | D.int k' n_1=>bif decide (k'=IntKind.i64) then zb (decide (0≤i)&&decide (i<(↑l.length:Int))) (za l i.toNat fun y=>za y.cells 0 fun c=>match c with
    | D.sl s l_3=>bif s.beq (cx.P.cellsOf 3)||l_3.isEmpty then zb (decide (0≤j)&&decide (j<(↑l_3.length:Int))) (za l_3 j.toNat fun y=>za y.cells 0 fun c=>match c with
     | D.int k' n_2=>bif decide (k'=IntKind.i64) then bif !decide (n_1=n_2) then some (Out.ret (V.d (D.bool false)),[]) else LP cx (CK.plain zm) n 32 0 9 m [(0,V.d (D.sl 1 l)),(1,V.d (D.sl 1 l)),(5,V.d (D.int .i64 i)),(6,V.d (D.int .i64 (IntKind.i64.wrap (j+(1:Int)))))] [] (AL cx (CK.plain zm) n 32 0 4 9 (inK cx (CK.plain zm) n 32 0 4 k (AK cx (CK.plain zm) n 32 0 4 (EK cx 32 0)))) else none
     | x=>none) else none
    | x=>none) else none
   | x=>none) else none
  | x=>none) else LP cx (CK.plain zm) n 32 0 4 k [(0,V.d (D.sl 1 l)),(1,V.d (D.sl 1 l)),(5,V.d (D.int .i64 (IntKind.i64.wrap (i+(1:Int)))))] [] (AK cx (CK.plain zm) n 32 0 4 (EK cx 32 0)) else none
 | x=>none):=by kernel_rfl
theorem zf9{α:Type}:∀ (l:List α) (i:Nat),y0 (fun _=>false) l i=none
 | [],_=>rfl
 | _::l,i=>zf9 l (i+1)
theorem z1v(l:List Nat):(nI l).length=l.length:=by unfold nI; rw [List.length_map]
theorem zsb{R:Type}{l:List D}{i:Nat}{x:D}{K:D→Option R}(h:l[i]?=some x):za l i K=K x:=by
 unfold za; rw [h]
theorem m33(l:List (List UInt8))(hl:yi l=true):zh cx 33 [.d (.sl 1 (l.map .str)),.d (.sl 1 (l.map .str))] []=some (.ret (mkB true),[]):=by
 refine zl zo (N:=l.length+1) ?_
 rw [yd3,decide_eq_true rfl,Bool.not_true,cond_false,List.length_map]
 have h:=zaa (fun k i=>LP cx (CK.plain zm) (l.length+1) 33 0 4 k [(0,V.d (D.sl 1 (List.map D.str l))),(1,V.d (D.sl 1 (List.map D.str l))),(12,V.d (D.int .i64 (l.length:Int))),(13,V.d (D.int .i64 i))] [] (AK cx (CK.plain zm) (l.length+1) 33 0 4 (EK cx 33 0)))
  l (fun _=>false) (fun _=>none) (some (.ret (mkB true),[])) (yj hl)
  (fun k j x hj hx=>by
   rw [ybv,List.length_map,ye hj,xd,xi,Int.toNat_natCast,hx]
   show zb (true&&true) (za (l.map D.str) (j:Int).toNat _)=_
   rw [xi,Int.toNat_natCast,hx]
   show (bif !decide (x=x) then _ else _)=_
   rw [decide_eq_true rfl]; rfl)
  (fun k=>by rw [ybv,yy,cond_false]; rfl) (k:=l.length+1) (Nat.lt_succ_self _)
 rw [zf9] at h
 exact h
theorem cells3:Nat.beq 1 (cx.P.cellsOf 3)=true:=by kernel_rfl
theorem zmx{l:List (List Nat)}{j:Nat}{x:List Nat}(hx:l[j]?=some x):(y6 l)[j]?=some (.sl 1 (nI x)):=by unfold y6; rw [List.getElem?_map,hx]; rfl
theorem zht(l:List (List Nat)):(y6 l).length=l.length:=by unfold y6; rw [List.length_map]
theorem z4p(n k:Nat)(l:List (List Nat))(i:Nat)(u:List Nat)(hu:l[i]?=some u)(hs:yi u=true)(hn:u.length<n)(hi:i<4294967295) :
  LP cx (CK.plain zm) n 32 0 9 n [(0,V.d (D.sl 1 (y6 l))),(1,V.d (D.sl 1 (y6 l))),(5,V.d (D.int .i64 (i:Int))),(6,V.d (D.int .i64 0))] [] (AL cx (CK.plain zm) n 32 0 4 9 (inK cx (CK.plain zm) n 32 0 4 k (AK cx (CK.plain zm) n 32 0 4 (EK cx 32 0)))) =
  LP cx (CK.plain zm) n 32 0 4 k [(0,V.d (D.sl 1 (y6 l))),(1,V.d (D.sl 1 (y6 l))),(5,V.d (D.int .i64 (IntKind.i64.wrap ((i:Int)+1))))] [] (AK cx (CK.plain zm) n 32 0 4 (EK cx 32 0)):=by
 have hlt:=(List.getElem?_eq_some_iff.1 hu).1
 have h:=zaa (fun m j=>LP cx (CK.plain zm) n 32 0 9 m [(0,V.d (D.sl 1 (y6 l))),(1,V.d (D.sl 1 (y6 l))),(5,V.d (D.int .i64 (i:Int))),(6,V.d (D.int .i64 j))] [] (AL cx (CK.plain zm) n 32 0 4 9 (inK cx (CK.plain zm) n 32 0 4 k (AK cx (CK.plain zm) n 32 0 4 (EK cx 32 0)))))
  u (fun _=>false) (fun _=>none) (LP cx (CK.plain zm) n 32 0 4 k [(0,V.d (D.sl 1 (y6 l))),(1,V.d (D.sl 1 (y6 l))),(5,V.d (D.int .i64 (IntKind.i64.wrap ((i:Int)+1))))] [] (AK cx (CK.plain zm) n 32 0 4 (EK cx 32 0))) (yj hs)
  (fun m j x hj hx=>by
   have hnth:∀ {R:Type} {K:D→Option R},za (nI u) (j:Int).toNat K=K (.int .i64 (x:Int)):=fun {R K}=>by rw [zsa,Int.toNat_natCast,hx]; rfl
   have hul:∀ {R:Type} {K:D→Option R},za (y6 l) (i:Int).toNat K=K (.sl 1 (nI u)):=fun {R K}=>zsb (by rw [Int.toNat_natCast]; exact zmx hu)
   have c1:(D.sl 1 (nI u)).cells=[D.sl 1 (nI u)]:=rfl
   have c2:(D.int .i64 (x:Int)).cells=[D.int .i64 (x:Int)]:=rfl
   refine (z6i n k m (y6 l) i j).trans ?_
   simp only [zht,ye hlt,xd,Bool.and_self,zix,hul,c1,x5,cells3,Bool.true_or,cond_true,z1v,ye hj,hnth,c2,decide_true,Bool.not_true,cond_false])
  (fun m=>by
   have hul:∀ {R:Type} {K:D→Option R},za (y6 l) (i:Int).toNat K=K (.sl 1 (nI u)):=fun {R K}=>zsb (by rw [Int.toNat_natCast]; exact zmx hu)
   have c1:(D.sl 1 (nI u)).cells=[D.sl 1 (nI u)]:=rfl
   refine (z6i n k m (y6 l) i u.length).trans ?_
   simp only [zht,ye hlt,xd,Bool.and_self,zix,hul,c1,x5,cells3,Bool.true_or,cond_true,z1v,yy,cond_false]) (k:=n) hn
 rw [zf9] at h
 exact h
theorem m32(l:List (List Nat))(hl:yi l=true)(ha:∀ u∈l,u.length<4294967296):zh cx 32 [.d (.sl 1 (y6 l)),.d (.sl 1 (y6 l))] []=some (.ret (mkB true),[]):=by
 obtain ⟨N,h1,h2⟩:∃ N,l.length<N∧∀ u∈l,u.length<N:=⟨l.length+4294967296,by omega,fun u hu=>by have:=ha u hu; omega⟩
 have hll:=yj hl
 refine zl zo (N:=N) ?_
 rw [yd4,decide_eq_true rfl,Bool.not_true,cond_false]
 have h:=zaa (fun k i=>LP cx (CK.plain zm) N 32 0 4 k [(0,V.d (D.sl 1 (y6 l))),(1,V.d (D.sl 1 (y6 l))),(5,V.d (D.int .i64 i))] [] (AK cx (CK.plain zm) N 32 0 4 (EK cx 32 0)))
  l (fun _=>false) (fun _=>none) (some (.ret (mkB true),[])) (yj hl)
  (fun k j x hj hx=>by
   have hul:∀ {R:Type} {K:D→Option R},za (y6 l) (j:Int).toNat K=K (.sl 1 (nI x)):=fun {R K}=>zsb (by rw [Int.toNat_natCast]; exact zmx hx)
   have c1:(D.sl 1 (nI x)).cells=[D.sl 1 (nI x)]:=rfl
   refine (ybw N k (y6 l) j).trans ?_
   simp only [zht,ye hj,xd,Bool.and_self,zix,hul,c1,x5,cells3,Bool.true_or,cond_true,decide_true,Bool.not_true,cond_false]
   exact z4p N k l j x hx (zjk (ha x (List.mem_of_getElem? hx))) (h2 x (List.mem_of_getElem? hx)) (by omega))
  (fun k=>by rw [ybw,zht,yy,cond_false]; rfl) (k:=N) h1
 rw [zf9] at h
 exact h
end Go.Vai
end

section
namespace Go.Vai
open Go.Proofs
def txW:List UInt8:=[97,32,58,32,85,32,61,32,83,49,59,32,98,32,58,32,85,32,61,32,85,59,32,99,32,58,32,97,32,61,32,98,97,115,101,59]
def nmT(s:List UInt8)(a:Int):T:=.mk 1 s [] [] a
def lw:List T:=[.mk 18 [97] [nmT [85] 4,nmT [83,49] 8] [] 0,.mk 18 [98] [nmT [85] 16,nmT [85] 20] [] 12,.mk 18 [99] [nmT [97] 27,nmT [98,97,115,101] 31] [] 23]
theorem w44:w8 cx 100 44 [.d (.str txW)] []=some (.ret (.tup [.d (.sl 5 (T.ds lw)),.d (.int .i64 0),.d (.int .i64 0)]),[]):=by kernel_rfl
end Go.Vai
end

section
namespace Go.Vai
open Go.Proofs
mutual
def z1i:T→T→Bool
 | .mk k nm kids nms pl,.mk k' nm' kids' nms' pl'=>decide (k=k')&&decide (nm=nm')&&zna kids kids'&&decide (nms=nms')&&decide (pl=pl')
def zna:List T→List T→Bool
 | [],[]=>true
 | a::l,b::m=>z1i a b&&zna l m
 | _,_=>false
end
mutual
theorem z1h:∀ {a b:T},z1i a b=true→a=b
 | .mk k nm kids nms pl,.mk k' nm' kids' nms' pl',h=>by
  simp only [z1i,Bool.and_eq_true,decide_eq_true_eq] at h
  obtain ⟨⟨⟨⟨rfl,rfl⟩,h3⟩,rfl⟩,rfl⟩:=h
  rw [zkp h3]
theorem zkp:∀ {a b:List T},zna a b=true→a=b
 | [],[],_=>rfl
 | a::l,b::m,h=>by
  simp only [zna,Bool.and_eq_true] at h
  rw [z1h h.1,zkp h.2]
 | [],b::m,h=>by cases h
 | a::l,[],h=>by cases h
end
def z2c(x:D):Option Unit:=zc (vu (zg 5) x) fun l=>zb (zna l lw) (some ())
theorem zh1{x:D}{u:Unit}(h:z2c x=some u):x=.sl 5 (T.ds lw):=by
 obtain ⟨l,hl,h⟩:=zd h
 obtain ⟨h1,_⟩:=ze h
 obtain ⟨d,rfl,h2,_⟩:=zem hl
 rw [(zfq (fun x t h=>(yx h).1) h2).1,zkp h1]
theorem z4x:zdh lw=true:=by kernel_rfl
theorem z4b:vt lw=([[],[],[0]],0):=by kernel_rfl
def mkL(l:List Nat):V:=.tup [.d (.sl 1 (nI l)),.d (.int .i64 0)]
noncomputable def z38:CK R1:=zt 24 qn z2c (fun _=>mkU ([[],[],[0]],0)) (evK 40)
theorem zgw:knows cx z38.S (zh cx):=zj (zrc 40) fun a q b hd h hb=>by
 rw [xk h,zh1 hb,m24 lw z4x,z4b]
theorem w19:zk cx z38 10 19 [.d (.sl 5 (T.ds lw)),.d (.str [99])] []=some (.ret (mkL [0,2]),[]):=by kernel_rfl
theorem w21:zk cx z38 10 21 [.d (.sl 5 (T.ds lw))] []=some (.ret (mkL [1,2]),[]):=by kernel_rfl
theorem w26:zk cx z38 10 26 [.d (.sl 5 (T.ds lw))] []=some (.ret (mkL [0,1,2]),[]):=by kernel_rfl
def ybk:List V→Option Unit | [.d (.str s)]=>zb (decide (s=txW)) (some ()) | _=>none
def z26:List V→Option D | [.d x,.d (.str s)]=>zb (decide (s=[99])) (some x) | _=>none
noncomputable def ych:CK R1:=zt 44 ybk some (fun _=>.tup [.d (.sl 5 (T.ds lw)),.d (.int .i64 0),.d (.int .i64 0)]) (zt 19 z26 z2c (fun _=>mkL [0,2]) (zt 21 qn z2c (fun _=>mkL [1,2]) (zt 26 qn z2c (fun _=>mkL [0,1,2]) z38)))
theorem zxh:knows cx ych.S (zh cx):=
 zj (zj (zj (zj zgw fun a q b hd h hb=>by
   rw [xk h,zh1 hb]
   exact zl zgw (N:=10) w26) fun a q b hd h hb=>by
   rw [xk h,zh1 hb]
   exact zl zgw (N:=10) w21) fun a q b hd h hb=>by
   unfold z26 at h
   split at h
   ·obtain ⟨h1,h⟩:=ze h
    cases h
    rw [zh1 hb,of_decide_eq_true h1]
    exact zl zgw (N:=10) w19
   ·cases h) fun a q b hd h hb=>by
   unfold ybk at h
   split at h
   ·obtain ⟨h1,h⟩:=ze h
    rw [of_decide_eq_true h1]
    exact zhd w44
   ·cases h
theorem w18:zk cx ych 10 18 [] []=some (.ret (mkB true),[]):=by kernel_rfl
theorem m18:zh cx 18 [] []=some (.ret (mkB true),[]):=zl zxh (N:=10) w18
end Go.Vai
end

section
namespace Go.Vai
open Go.Proofs
def mk2(q:List D×Int):V:=.tup [.d (.sl 1 q.1),.d (.int .i64 q.2)]
def zzx:List V→Option (D×D) | [.d x,.d y]=>some (x,y) | _=>none
def z29:List V→Option Unit | []=>some () | _=>none
noncomputable def yce(b:D→Int→Option Int):CK R1:=zt 28 zfn (fun q=>b q.1 q.2) mkI (CK.plain zm)
noncomputable def yci(g:D→Option Bool):CK R1:=zt 43 qn g mkB (CK.plain zm)
noncomputable def K9n(g:D→Option Bool)(b:D→Int→Option Int)(u v c d:D→Option (List D×Int))(p q:D→D→Option Bool)(w:Option Bool):CK R1:=
 zt 17 qn g mkB (zt 28 zfn (fun q=>b q.1 q.2) mkI (zt 24 qn u mk2 (zt 29 qn v mk2 (zt 30 qn c mk2 (zt 31 qn d mk2 (zt 32 zzx (fun x=>p x.1 x.2) mkB (zt 33 zzx (fun x=>q x.1 x.2) mkB (zt 18 z29 (fun _=>w) mkB (CK.plain zm)))))))))
end Go.Vai
end

section
namespace Go.Vai
open Go.Proofs
theorem yd1(b:D→Int→Option Int)(n:Nat)(l:List T):zk cx (yce b) n 43 [.d (.sl 5 (T.ds l))] []=zc (b (D.agg [D.int .i64 (0:Int),D.str [],D.sl 5 (T.ds l),D.sl 1 [],D.int .i64 (0:Int)],(400:Int)).fst (D.agg [D.int .i64 (0:Int),D.str [],D.sl 5 (T.ds l),D.sl 1 [],D.int .i64 (0:Int)],(400:Int)).snd) fun b=>some (Out.ret (V.d (D.bool (decide ((400:Int)<b)))),[]):=by kernel_rfl
theorem yd9(g:D→Option Bool)(n:Nat)(l:List T):zk cx (yci g) n 17 [.d (.sl 5 (T.ds l))] []=bif decide ((40:Int)<(↑(T.ds l).length:Int)) then some (Out.ret (V.d (D.bool true)),[]) else zc (g (D.sl 5 (T.ds l))) fun b=>some (Out.ret (V.d (D.bool b)),[]):=by kernel_rfl
theorem ag9(g:D→Option Bool)(b:D→Int→Option Int)(u v c d:D→Option (List D×Int))(p q:D→D→Option Bool)(w:Option Bool)(n:Nat)(l:List T)(k:Int)(nm:List UInt8)(kids:List T)(nms:List (List UInt8))(pl:Int):zk cx (K9n g b u v c d p q w) n 9 [.d (.sl 5 (T.ds l)),.d (T.mk k nm kids nms pl).d] []=zc (g (D.sl 5 (T.ds l))) fun b_1=>bif b_1 then zc w fun b=>some (Out.ret (V.d (D.bool b)),[]) else zc (b (D.agg [D.int .i64 k,D.str nm,D.sl 5 (T.ds kids),D.sl 1 (List.map D.str nms),D.int .i64 pl],(400:Int)).fst (D.agg [D.int .i64 k,D.str nm,D.sl 5 (T.ds kids),D.sl 1 (List.map D.str nms),D.int .i64 pl],(400:Int)).snd) fun b=>bif decide ((400:Int)<b) then zc w fun b=>some (Out.ret (V.d (D.bool b)),[]) else zc (u (D.sl 5 (T.ds l))) fun b=>zc (v (D.sl 5 (T.ds l))) fun b_2=>zc (c (D.agg [D.int .i64 k,D.str nm,D.sl 5 (T.ds kids),D.sl 1 (List.map D.str nms),D.int .i64 pl])) fun b_3=>zc (d (D.agg [D.int .i64 k,D.str nm,D.sl 5 (T.ds kids),D.sl 1 (List.map D.str nms),D.int .i64 pl])) fun b_4=>zc (p (D.sl 1 b.1,D.sl 1 b_2.1).fst (D.sl 1 b.1,D.sl 1 b_2.1).snd) fun b_5=>bif b_5 then bif decide (b.snd=b_2.snd) then zc (q (D.sl 1 b_3.1,D.sl 1 b_4.1).fst (D.sl 1 b_3.1,D.sl 1 b_4.1).snd) fun b=>bif b then bif decide (b_3.snd=b_4.snd) then zc w fun b=>some (Out.ret (V.d (D.bool b)),[]) else some (Out.ret (V.d (D.bool false)),[]) else some (Out.ret (V.d (D.bool false)),[]) else some (Out.ret (V.d (D.bool false)),[]) else some (Out.ret (V.d (D.bool false)),[]):=by kernel_rfl
noncomputable def zvh(x:D):Option (List T):=zc (vu Sp.toC x) fun l=>zb (T.oks l) (some l)
theorem zxm{x:D}{l:List T}(h:zvh x=some l):x=.sl 5 (T.ds l)∧yi l=true∧T.oks l=true:=by
 obtain ⟨m,hm,h⟩:=zd h
 obtain ⟨h1,h⟩:=ze h
 cases h
 obtain ⟨d,rfl,h2,h3⟩:=zem hm
 exact ⟨by rw [(zfq (fun x t h=>(xe h).1) h2).1],h3,h1⟩
theorem z5q{l:List T}(h1:yi l=true)(h2:T.oks l=true):zvh (.sl 5 (T.ds l))=some l:=by
 unfold zvh
 rw [zm0 (fun t ht=>zdf (wn h2 ht)) h1]
 show zb (T.oks l) _=_
 rw [h2]; rfl
def zve(l:List T):T:=.mk 0 [] l [] 0
theorem z5d{l:List T}(h1:yi l=true)(h2:T.oks l=true):(zve l).ok=true:=by
 unfold zve; simp only [T.ok,h1,h2]; rfl
def zeh(l:List T):Bool:=decide ((40:Int)<(l.length:Int))||decide ((400:Int)<Sp.blk (zve l) 400)
noncomputable def b28(x:D)(a:Int):Option Int:=zc (Sp.toC x) fun t=>zb (decide (0≤a)&&decide (a≤1048576)) (some (Sp.blk t a))
theorem z21{a:List V}{q}(h:zfn a=some q):a=[.d q.1,.d (.int .i64 q.2)]:=zcu h
theorem zrq{a:List V}{q:D×Int}{b:Int}(h:zfn a=some q)(hb:b28 q.1 q.2=some b):zh cx 28 a []=some (.ret (mkI b),[]):=by
 obtain ⟨t,ht,hb⟩:=zd hb
 obtain ⟨h1,hb⟩:=ze hb
 cases hb
 rw [Bool.and_eq_true] at h1
 obtain ⟨h0,hg⟩:=xe ht
 rw [z21 h,h0]
 exact z6d t.depth t q.2 (Nat.le_refl _) hg (of_decide_eq_true h1.1) (of_decide_eq_true h1.2)
noncomputable def g43(x:D):Option Bool:=zc (zvh x) fun l=>some (decide ((400:Int)<Sp.blk (zve l) 400))
theorem m43(l:List T)(h1:yi l=true)(h2:T.oks l=true):zh cx 43 [.d (.sl 5 (T.ds l))] []=some (.ret (mkB (decide ((400:Int)<Sp.blk (zve l) 400))),[]):=by
 have hk:knows cx (yce b28).S (zh cx):=zj zo fun a q b hd h hb=>zrq h hb
 refine zl hk (N:=0) ?_
 rw [yd1]
 show zc (b28 (zve l).d 400) _=_
 unfold b28
 rw [zdf (z5d h1 h2)]
 rfl
theorem m17(l:List T)(h1:yi l=true)(h2:T.oks l=true):zh cx 17 [.d (.sl 5 (T.ds l))] []=some (.ret (mkB (zeh l)),[]):=by
 have hk:knows cx (yci g43).S (zh cx):=zj zo fun a q b hd h hb=>by
  obtain ⟨m,hm,hb⟩:=zd hb
  cases hb
  obtain ⟨h0,h1,h2⟩:=zxm hm
  rw [xk h,h0]
  exact m43 m h1 h2
 refine zl hk (N:=0) ?_
 have e:g43 (.sl 5 (T.ds l))=some (decide ((400:Int)<Sp.blk (zve l) 400)):=by unfold g43; rw [z5q h1 h2]; rfl
 rw [yd9,zq,e]
 unfold zeh
 cases decide ((40:Int)<(l.length:Int)) <;> rfl
noncomputable def g17(x:D):Option Bool:=zc (zvh x) fun l=>some (zeh l)
theorem zzn{a:List V}{x:D}{b:Bool}(h:qn a=some x)(hb:g17 x=some b):zh cx 17 a []=some (.ret (mkB b),[]):=by
 obtain ⟨m,hm,hb⟩:=zd hb
 cases hb
 obtain ⟨h0,h1,h2⟩:=zxm hm
 rw [xk h,h0]
 exact m17 m h1 h2
theorem z8d{l:List T}(h1:yi l=true)(h2:T.oks l=true):g17 (.sl 5 (T.ds l))=some (zeh l):=by unfold g17; rw [z5q h1 h2]; rfl
theorem z3g{t:T}(h : ¬ (400:Int)<Sp.blk t 400):Sp.bulk t≤400:=by
 obtain ⟨_,_,h3⟩:=zo2 t 400 (by omega)
 have:=h3 (by omega)
 omega
theorem zwf{l:List T}(h1:yi l=true)(h2:T.oks l=true)(h:zeh l=false):zdh l=true∧l.length≤40∧Sp.bulks l≤400:=by
 unfold zeh at h
 rw [Bool.or_eq_false_iff] at h
 have ha:=of_decide_eq_false h.1
 have hb:=z3g (of_decide_eq_false h.2)
 simp only [zve,Sp.bulk] at hb
 exact ⟨qh.2 ⟨h1,h2,by omega⟩,by omega,by omega⟩
noncomputable def u24(x:D):Option (List D×Int):=zc (zim x) fun l=>some (y6 (vt l).1,(vt l).2)
theorem z6p{l:List T}(h:zdh l=true):u24 (.sl 5 (T.ds l))=some (y6 (vt l).1,(vt l).2):=by unfold u24; rw [zm1 h]; rfl
theorem zyt{a:List V}{x:D}{b}(h:qn a=some x)(hb:u24 x=some b):zh cx 24 a []=some (.ret (mk2 b),[]):=by
 obtain ⟨m,hm,hb⟩:=zd hb
 cases hb
 obtain ⟨h0,h1⟩:=zeo hm
 rw [xk h,h0]
 exact m24 m h1
theorem zys{a:List V}{x:D}{b}(h:qn a=some x)(hb:u24 x=some b):zh cx 29 a []=some (.ret (mk2 b),[]):=by
 obtain ⟨m,hm,hb⟩:=zd hb
 cases hb
 obtain ⟨h0,h1⟩:=zeo hm
 rw [xk h,h0]
 exact m29 m h1
noncomputable def c30(x:D):Option (List D×Int):=zc (Sp.toC x) fun t=>zb (decide (Sp.cnt t<2147483648)) (some ((vm t).1.map .str,(vm t).2))
theorem z8j{t:T}(h:t.ok=true)(hc:Sp.cnt t<2147483648):c30 t.d=some ((vm t).1.map .str,(vm t).2):=by
 unfold c30
 rw [zdf h]
 show zb (decide (Sp.cnt t<2147483648)) _=_
 rw [decide_eq_true hc]; rfl
theorem zz8{a:List V}{x:D}{b}(h:qn a=some x)(hb:c30 x=some b):zh cx 30 a []=some (.ret (mk2 b),[]):=by
 obtain ⟨t,ht,hb⟩:=zd hb
 obtain ⟨h1,hb⟩:=ze hb
 cases hb
 obtain ⟨h0,hg⟩:=xe ht
 rw [xk h,h0]
 exact m30 t hg (of_decide_eq_true h1)
theorem zz7{a:List V}{x:D}{b}(h:qn a=some x)(hb:c30 x=some b):zh cx 31 a []=some (.ret (mk2 b),[]):=by
 obtain ⟨t,ht,hb⟩:=zd hb
 obtain ⟨h1,hb⟩:=ze hb
 cases hb
 obtain ⟨h0,hg⟩:=xe ht
 rw [xk h,h0]
 exact m31 t hg (of_decide_eq_true h1)
open Classical in
noncomputable def p32(x y:D):Option Bool:=if (∃ us,x=.sl 1 (y6 us)∧y=x∧yi us=true∧∀ u∈us,u.length<4294967296) then some true else none
open Classical in
noncomputable def p33(x y:D):Option Bool:=if (∃ us:List (List UInt8),x=.sl 1 (us.map .str)∧y=x∧yi us=true) then some true else none
open Classical in
theorem zrj{a:List V}{q}(h:zzx a=some q):a=[.d q.1,.d q.2]:=by
 unfold zzx at h; split at h <;> cases h; rfl
theorem zy8{a:List V}{q:D×D}{b:Bool}(h:zzx a=some q)(hb:p32 q.1 q.2=some b):zh cx 32 a []=some (.ret (mkB b),[]):=by
 unfold p32 at hb
 split at hb
 ·rename_i he
  cases hb
  obtain ⟨us,h1,h2,h3,h4⟩:=he
  rw [zrj h,h2,h1]
  exact m32 us h3 h4
 ·cases hb
theorem zy7{a:List V}{q:D×D}{b:Bool}(h:zzx a=some q)(hb:p33 q.1 q.2=some b):zh cx 33 a []=some (.ret (mkB b),[]):=by
 unfold p33 at hb
 split at hb
 ·rename_i he
  cases hb
  obtain ⟨us,h1,h2,h3⟩:=he
  rw [zrj h,h2,h1]
  exact m33 us h3
 ·cases hb
theorem z6y{us:List (List Nat)}(h1:yi us=true)(h2:∀ u∈us,u.length<4294967296):p32 (.sl 1 (y6 us)) (.sl 1 (y6 us))=some true:=by
 unfold p32; rw [if_pos ⟨us,rfl,rfl,h1,h2⟩]
theorem z6x{us:List (List UInt8)}(h1:yi us=true):p33 (.sl 1 (us.map .str)) (.sl 1 (us.map .str))=some true:=by
 unfold p33; rw [if_pos ⟨us,rfl,rfl,h1⟩]
theorem zyq{a:List V}{q:Unit}{b:Bool}(h:z29 a=some q)(hb:(some true:Option Bool)=some b):zh cx 18 a []=some (.ret (mkB b),[]):=by
 cases hb
 unfold z29 at h; split at h <;> cases h
 exact m18
theorem z01(l:List T):(vt l).1.length≤l.length∧∀ u∈(vt l).1,u.length≤l.length:=by
 unfold vt
 cases decide (Sp.wr l=0)
 ·exact ⟨Nat.zero_le _,fun u hu=>by cases hu⟩
 ·show (zxl l).length≤l.length∧∀ u∈zxl l,u.length≤l.length
  unfold zxl
  refine ⟨by rw [List.length_map]; exact Nat.le_refl _,fun u hu=>?_⟩
  obtain ⟨t,_,rfl⟩:=List.mem_map.1 hu
  unfold zef
  exact Nat.le_trans (zxs _ _) (by rw [zms]; exact Nat.le_refl _)
theorem zzf(t:T):(vm t).1.length≤Sp.cnt t:=by
 unfold vm
 cases Sp.right t
 ·exact Nat.zero_le _
 ·have:=zdp t [] []
  simpa using this
theorem pure_sliceUses(l:List T)(h1:yi l=true)(h2:T.oks l=true)(t:T)(ht:t.ok=true):zh cx 9 [.d (.sl 5 (T.ds l)),.d t.d] []=some (.ret (mkB true),[]):=by
 have hk:knows cx (K9n g17 b28 u24 u24 c30 c30 p32 p33 (some true)).S (zh cx):=
  zj (zj (zj (zj (zj (zj (zj (zj (zj zo
   fun a q b hd h hb=>zyq h hb) fun a q b hd h hb=>zy7 h hb) fun a q b hd h hb=>zy8 h hb) fun a q b hd h hb=>zz7 h hb)
   fun a q b hd h hb=>zz8 h hb) fun a q b hd h hb=>zys h hb) fun a q b hd h hb=>zyt h hb) fun a q b hd h hb=>zrq h hb) fun a q b hd h hb=>zzn h hb
 refine zl hk (N:=0) ?_
 obtain ⟨k,nm,kids,nms,pl⟩:=t
 refine (ag9 g17 b28 u24 u24 c30 c30 p32 p33 (some true) 0 l k nm kids nms pl).trans ?_
 rw [z8d h1 h2]
 cases hgr:zeh l
 ·obtain ⟨hg,hl,hb⟩:=zwf h1 h2 hgr
  have e1:b28 (T.mk k nm kids nms pl).d 400=some (Sp.blk (T.mk k nm kids nms pl) 400):=by unfold b28; rw [zdf ht]; rfl
  show (zc (b28 (T.mk k nm kids nms pl).d 400) _)=_
  rw [e1]
  cases hbk:decide ((400:Int)<Sp.blk (T.mk k nm kids nms pl) 400)
  ·have hbl:=z3g (of_decide_eq_false hbk)
   have hcb:=zhi (T.mk k nm kids nms pl)
   have e2:=z8j ht (by omega)
   obtain ⟨hu1,hu2⟩:=z01 l
   have hn:=zzf (T.mk k nm kids nms pl)
   have e3:=z6y (us:=(vt l).1) (zjk (by omega)) (fun u hu=>by have:=hu2 u hu; omega)
   have e4:=z6x (us:=(vm (T.mk k nm kids nms pl)).1) (zjk (by omega))
   show (bif decide ((400:Int)<Sp.blk (T.mk k nm kids nms pl) 400) then _ else zc (u24 (.sl 5 (T.ds l))) fun b=>zc (u24 (.sl 5 (T.ds l))) fun b_2=>zc (c30 (T.mk k nm kids nms pl).d) fun b_3=>zc (c30 (T.mk k nm kids nms pl).d) _)=_
   rw [hbk,z6p hg,e2]
   show (zc (p32 (.sl 1 (y6 (vt l).1)) (.sl 1 (y6 (vt l).1))) fun b_5=>bif b_5 then (bif decide ((vt l).2=(vt l).2) then zc (p33 (.sl 1 ((vm (T.mk k nm kids nms pl)).1.map .str)) (.sl 1 ((vm (T.mk k nm kids nms pl)).1.map .str))) (fun b=>bif b then (bif decide ((vm (T.mk k nm kids nms pl)).2=(vm (T.mk k nm kids nms pl)).2) then _ else _) else _) else _) else _)=_
   rw [e3,e4,decide_eq_true rfl,decide_eq_true rfl]
   rfl
  ·show (bif decide ((400:Int)<Sp.blk (T.mk k nm kids nms pl) 400) then _ else _)=_
   rw [hbk]
   rfl
 ·rfl
end Go.Vai
end

section
namespace Go.Vai
open Go.Proofs Go.Proofs.YtmolcgfhgdhgoaaGreatDoor
theorem bulks_len:∀ l:List T,l.length≤Sp.bulks l
 | []=>Nat.le_refl _
 | .mk k nm kids nms pl::l=>by
  have:=bulks_len l
  simp only [List.length_cons,Sp.bulks,Sp.bulk]; omega
theorem zt8:∀ l:List (List UInt8),l.length≤Sp.lens l
 | []=>Nat.le_refl _
 | x::l=>by have:=zt8 l; simp only [List.length_cons,Sp.lens]; omega
theorem zt9:∀ l:List (List UInt8),Sp.lens l<4294967296→l.all yi=true
 | [],_=>rfl
 | x::l,h=>by
  simp only [Sp.lens] at h
  rw [List.all_cons,zt9 l (by omega),Bool.and_true]
  exact decide_eq_true (by omega)
mutual
theorem ok_bulk:∀ t:T,Sp.bulk t<4294967296→t.ok=true
 | .mk k nm kids nms pl,h=>by
  simp only [Sp.bulk] at h
  have h1:=bulks_len kids
  have h2:=zt8 nms
  simp only [T.ok,oks_bulk kids (by omega),zt9 nms (by omega),Bool.and_true,Bool.and_eq_true]
  exact ⟨⟨decide_eq_true (by omega),decide_eq_true (by omega)⟩,decide_eq_true (by omega)⟩
theorem oks_bulk:∀ l:List T,Sp.bulks l<4294967296→T.oks l=true
 | [],_=>rfl
 | t::l,h=>by
  simp only [Sp.bulks] at h
  simp only [T.oks,ok_bulk t (by omega),oks_bulk l (by omega)]; rfl
end
theorem zrs(t:T):D.agg t.d.cells=t.d:=by cases t; rfl
section
variable {H:Type} {enc:TypeId×Value→H} {W:World} {base:Nat} {spare:Nat→Bool} {held:Bool}
theorem zre{m:Nat}:∀ (es:List (DataW H×List MemPlace)),(∀ y∈es,∃ t:T,xg Tryz.prog m 26 y.1=some t.d.cells∧Sp.bulk t≤Rows.uptoBulk y.1) →
  ∃ l:List T,zbc true (xg Tryz.prog m 26) (es.map (·.1))=some (T.ds l)∧Sp.bulks l≤Rows.uptoBulkAll (es.map (·.1))
 | [],_=>⟨[],rfl,Nat.le_refl _⟩
 | y::es,h=>by
  obtain ⟨t,h1,h2⟩:=h y (List.mem_cons_self ..)
  obtain ⟨l,h3,h4⟩:=zre es fun z hz=>h z (List.mem_cons_of_mem _ hz)
  refine ⟨t::l,?_,?_⟩
  ·simp only [List.map_cons,zbc,h1,h3,T.ds,elemOf,cond_true,zrs]
  ·simp only [List.map_cons,Sp.bulks,Rows.uptoBulkAll]; omega
theorem zu0{m:Nat}:∀ (es:List (DataW H×List MemPlace)),(∀ y∈es,∃ s:List UInt8,y.1=.lit (.string s)) →
  ∃ l:List (List UInt8),zbc false (xg Tryz.prog (m+1) 9) (es.map (·.1))=some (l.map .str)∧Sp.lens l≤Rows.uptoBulkAll (es.map (·.1))
 | [],_=>⟨[],rfl,Nat.le_refl _⟩
 | y::es,h=>by
  obtain ⟨s,h1⟩:=h y (List.mem_cons_self ..)
  obtain ⟨l,h3,h4⟩:=zu0 (m:=m) es fun z hz=>h z (List.mem_cons_of_mem _ hz)
  refine ⟨s::l,?_,?_⟩
  ·have e:xg Tryz.prog (m+1) 9 y.1=some [.str s]:=by rw [h1]; simp only [xg,Tryz.underlying9]
   simp only [List.map_cons,zbc,e,h3]
   rfl
  ·simp only [List.map_cons,Sp.lens,Rows.uptoBulkAll,h1,Rows.uptoBulk]; omega
theorem zf1{P:Program}{n t e:Nat}{els sp:List (DataW H)}(h:P.underlying t=some (.slice e)) :
  xg P (n+1) t (.slice els sp)=bif Nat.beq (P.cellsOf e) 0 then none else (zbc (xw P e) (xg P n e) els).map fun l=>[.sl (P.cellsOf e) l]:=by
 simp only [xg,h]
theorem zpm{P:Program}{n t:Nat}{fs:Array Field}{ps:List (DataW H)}(h:P.underlying t=some (.struct fs)) :
  xg P (n+1) t (.agg ps)=bif ze0 P 0 fs.toList (P.cellsOf t) then vp (xg P n) fs.toList ps else none:=by
 simp only [xg,h]
theorem ybz:xw Tryz.prog 26=true:=by kernel_rfl
theorem ydt:xw Tryz.prog 9=false:=by kernel_rfl
theorem cells26:Tryz.prog.cellsOf 26=5:=by kernel_rfl
theorem cells9:Tryz.prog.cellsOf 9=1:=by kernel_rfl
theorem zo3{α β:Type}{o:Option α}{f:α→Option β}{y:β}(h:o.bind f=some y):∃ a,f a=some y:=by
 cases o with
 | none=>cases h
 | some a=>exact ⟨a,h⟩
theorem trod_trees{n:Nat}{cs:List Value}{x:DataW H×List MemPlace}(ih:∀ m,m<n→∀ cs x,DataW.trod enc Tryz.prog W base spare held m 26 cs=some x→∃ t:T,xg Tryz.prog m 26 x.1=some t.d.cells∧Sp.bulk t≤Rows.uptoBulk x.1)
  (h:DataW.trod enc Tryz.prog W base spare held n 24 cs=some x):∃ l:List T,xg Tryz.prog n 24 x.1=some [.sl 5 (T.ds l)]∧Sp.bulks l+1≤Rows.uptoBulk x.1:=by
 have hn:∃ k,n=k+1:=by
  cases n with
  | zero=>simp [DataW.trod] at h
  | succ k=>exact ⟨k,rfl⟩
 obtain ⟨k,rfl⟩:=hn
 rcases DataW.trod_slice Tryz.underlying24 h with ⟨_,rfl⟩ | ⟨a,len,cap,elems,rest,m,hm,_,rfl,_,_,_,hl,he,_⟩
 ·refine ⟨[],?_,Nat.le_refl _⟩
  simp only [xg,Tryz.underlying24,cells26]
  rfl
 ·cases hm
  obtain ⟨l,h1,h2⟩:=zre (m:=k) elems fun y hy=>by
   obtain ⟨i,hi⟩:=List.getElem?_of_mem hy
   have:=he i (by have:=(List.getElem?_eq_some_iff.1 hi).1; omega)
   rw [hi] at this
   obtain ⟨c,hc⟩:=zo3 this
   exact ih k (Nat.lt_succ_self _) c y hc
  refine ⟨l,?_,?_⟩
  ·have e:Nat.beq (Tryz.prog.cellsOf 26) 0=false:=by rw [cells26]; rfl
   rw [zf1 Tryz.underlying24,e,cond_false,ybz,h1,cells26]
   rfl
  ·simp only [Rows.uptoBulk]; omega
theorem zyu{n:Nat}{cs:List Value}{x:DataW H×List MemPlace}(h:DataW.trod enc Tryz.prog W base spare held n 23 cs=some x):∃ l:List (List UInt8),xg Tryz.prog n 23 x.1=some [.sl 1 (l.map .str)]∧Sp.lens l+1≤Rows.uptoBulk x.1:=by
 have hn:∃ k,n=k+1:=by
  cases n with
  | zero=>simp [DataW.trod] at h
  | succ k=>exact ⟨k,rfl⟩
 obtain ⟨k,rfl⟩:=hn
 rcases DataW.trod_slice Tryz.underlying23 h with ⟨_,rfl⟩ | ⟨a,len,cap,elems,rest,m,hm,_,rfl,_,_,_,hl,he,_⟩
 ·refine ⟨[],?_,Nat.le_refl _⟩
  simp only [xg,Tryz.underlying23,cells9]
  rfl
 ·cases hm
  have hel:∀ y∈elems,∃ c,DataW.trod enc Tryz.prog W base spare held k 9 c=some y:=fun y hy=>by
   obtain ⟨i,hi⟩:=List.getElem?_of_mem hy
   have:=he i (by have:=(List.getElem?_eq_some_iff.1 hi).1; omega)
   rw [hi] at this
   exact zo3 this
  have e:Nat.beq (Tryz.prog.cellsOf 9) 0=false:=by rw [cells9]; rfl
  cases k with
  | zero=>
   have:elems=[]:=by
    cases elems with
    | nil=>rfl
    | cons y es=>obtain ⟨c,hc⟩:=hel y (List.mem_cons_self ..); simp [DataW.trod] at hc
   subst this
   refine ⟨[],?_,?_⟩
   ·rw [zf1 Tryz.underlying23,e,cond_false,cells9]
    rfl
   ·simp only [Rows.uptoBulk,Sp.lens]; omega
  | succ k=>
   obtain ⟨l,h1,h2⟩:=zu0 (m:=k) elems fun y hy=>by
    obtain ⟨c,hc⟩:=hel y hy
    obtain ⟨s,_,rfl,_⟩:=DataW.trod_string Tryz.underlying9 hc
    exact ⟨_,rfl⟩
   refine ⟨l,?_,?_⟩
   ·rw [zf1 Tryz.underlying23,e,cond_false,ydt,h1,cells9]
    rfl
   ·simp only [Rows.uptoBulk]; omega
theorem trod_tree:∀ (n:Nat) (cs:List Value) (x:DataW H×List MemPlace),DataW.trod enc Tryz.prog W base spare held n 26 cs=some x→∃ t:T,xg Tryz.prog n 26 x.1=some t.d.cells∧Sp.bulk t≤Rows.uptoBulk x.1:=by
 intro n
 induction n using Nat.strongRecOn with
 | ind n ih=>
  intro cs x h
  obtain ⟨xs,m,rfl,rfl,hlen,hxs,hf⟩:=DataW.trod_struct Tryz.underlying26 h
  obtain ⟨x0,x1,x2,x3,x4,rfl⟩:∃ x0 x1 x2 x3 x4,xs=[x0,x1,x2,x3,x4]:=by
   match xs,hxs with
   | [a,b,c,d,e],_=>exact ⟨a,b,c,d,e,rfl⟩
  have f0:=hf 0 _ rfl
  have f1:=hf 1 _ rfl
  have f2:=hf 2 _ rfl
  have f3:=hf 3 _ rfl
  have f4:=hf 4 _ rfl
  simp only [List.getElem?_cons_zero,List.getElem?_cons_succ] at f0 f1 f2 f3 f4
  obtain ⟨k,_,rfl,_⟩:=DataW.trod_int Tryz.underlying3 f0
  obtain ⟨s,_,rfl,_⟩:=DataW.trod_string Tryz.underlying9 f1
  obtain ⟨l,hl1,hl2⟩:=trod_trees (fun m' hm'=>ih m' (Nat.lt_succ_of_lt hm')) f2
  obtain ⟨ns,hn1,hn2⟩:=zyu f3
  obtain ⟨p,_,rfl,_⟩:=DataW.trod_int Tryz.underlying3 f4
  have hm:∃ q,m=q+1:=by
   cases m with
   | zero=>simp [DataW.trod] at f0
   | succ k=>exact ⟨k,rfl⟩
  obtain ⟨q,rfl⟩:=hm
  refine ⟨.mk k s.data.toList l ns p,?_,?_⟩
  ·rw [zpm Tryz.underlying26]
   have e1:∀ z:Int,xg Tryz.prog (q+1) 3 (DataW.lit (H:=H) (.int .i64 z))=some [.int .i64 z]:=fun z=>by simp only [xg,Tryz.underlying3]
   have e2:∀ z:List UInt8,xg Tryz.prog (q+1) 9 (DataW.lit (H:=H) (.string z))=some [.str z]:=fun z=>by simp only [xg,Tryz.underlying9]
   have e0:∀ fs,ze0 Tryz.prog 0 fs (Tryz.prog.cellsOf 26)=true→(bif ze0 Tryz.prog 0 fs (Tryz.prog.cellsOf 26) then vp (xg (H:=H) Tryz.prog (q+1)) fs [.lit (.int .i64 k),.lit (.string s.data.toList),x2.1,x3.1,.lit (.int .i64 p)] else none)=vp (xg Tryz.prog (q+1)) fs [.lit (.int .i64 k),.lit (.string s.data.toList),x2.1,x3.1,.lit (.int .i64 p)]:=fun fs h=>by rw [h]; rfl
   refine (e0 _ (by kernel_rfl)).trans ?_
   simp only [vp,e1,e2,hl1,hn1]
   rfl
  ·simp only [List.map_cons,List.map_nil,Rows.uptoBulk,Rows.uptoBulkAll,Sp.bulk]
   omega
end
theorem same_kept{W W':World}(h:Kept W noOwn W'){p:MemPlace}(hp:p.block<W.heap.size):W.sameAt W' p:=by
 cases p with
 | cell b o=>exact World.cell?_of_block (w:=W) (h.blk b hp fun _ h=>h)
 | map b=>exact h.blk b hp fun _ h=>h
theorem rd_agg{W:World}{cs:Array Value}{t:T}(h:RDs W noOwn cs.toList t.d.cells)(ho:∀ c∈cs.toList,c.oneCell'=true):RDs W noOwn [.agg cs] [t.d]:=by
 have h1:=RD.agg (w:=W) (own:=noOwn) cs t.d.cells (by simpa using h.1) ho (fun i x y hx hy=>h.2 i x y (by simpa using hx) hy)
 rw [zrs] at h1
 exact RDs.one h1
end Go.Vai
end

section
namespace Go.Vai
open Go.Proofs
theorem hgrow:∀ g e,cx.grow g=some e→g=165∧e=9:=fun g e h=>by
 have h:(bif Nat.beq g 165 then some 9 else none)=some e:=h
 cases hb:Nat.beq g 165 <;> rw [hb] at h
 ·cases h
 ·cases h; exact ⟨Nat.eq_of_beq_eq_true hb,rfl⟩
end Go.Vai
end
