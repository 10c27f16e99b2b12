/-
  Lex: the reference: signs. To: Show: the program's looks at trees: elem, right.
-/
import Derived.Test.YtmolcgfhgdhgoaaGreatDoorSliPart1
set_option linter.all false
noncomputable section
namespace Go.Vai
open Go.Proofs
theorem b19(n:Nat)(s:List UInt8)(i:Int) :
    zl cx zn n 201 [.d (.str s),.d (.int .i64 i)] [] =
  bif decide (IntKind.i64.wrap (i+(1:Int))<(↑s.length:Int)) then
    zb
      (decide (0≤IntKind.i64.wrap (i+(2:Int))) &&
        decide (IntKind.i64.wrap (i+(2:Int))≤(↑s.length:Int)))
      (zb (decide (0≤i)&&decide (i≤(↑(IntKind.i64.wrap (i+(2:Int))).toNat:Int)))
        (bif decide (List.drop i.toNat (List.take (IntKind.i64.wrap (i+(2:Int))).toNat s)=[45,62]) then
          some (Out.ret (V.d (D.int .i64 (2:Int))),[])
        else
          bif decide (List.drop i.toNat (List.take (IntKind.i64.wrap (i+(2:Int))).toNat s)=[47,92]) then
            some (Out.ret (V.d (D.int .i64 (2:Int))),[])
          else
            bif decide (List.drop i.toNat (List.take (IntKind.i64.wrap (i+(2:Int))).toNat s)=[92,47]) then
              some (Out.ret (V.d (D.int .i64 (2:Int))),[])
            else
              LP cx zn n 201 0 7 n
                [(0,V.d (D.str s)),(1,V.d (D.int .i64 i)),
                  (6,V.d (D.str [40,41,91,93,44,46,58,59,61,92,60,62,64,126,42,48,49])),
                  (7,V.d (D.int .i64 (0:Int)))]
                [] (AK cx zn n 201 0 7 (EK cx 201 0))))
  else
    LP cx zn n 201 0 7 n
      [(0,V.d (D.str s)),(1,V.d (D.int .i64 i)),
        (6,V.d (D.str [40,41,91,93,44,46,58,59,61,92,60,62,64,126,42,48,49])),
        (7,V.d (D.int .i64 (0:Int)))]
      [] (AK cx zn n 201 0 7 (EK cx 201 0)):=by kernel_rfl
theorem l19(n k:Nat)(s:List UInt8)(i j:Int) :
    LP cx zn n 201 0 7 (k+1) [(0,.d (.str s)),(1,.d (.int .i64 i)),(6,.d (.str [40,41,91,93,44,46,58,59,61,92,60,62,64,126,42,48,49])),(7,.d (.int .i64 j))] [] (AK cx zn n 201 0 7 (EK cx 201 0)) =
  bif decide (j<(17:Int)) then
    zb (decide (0≤i)&&decide (i<(↑s.length:Int)))
      (zc s[i.toNat]? λ b=>
        zb
          (decide (0≤j) &&
            decide (j<(↑([40,41,91,93,44,46,58,59,61,92,60,62,64,126,42,48,49]:List UInt8).length:Int)))
          (zc ([40,41,91,93,44,46,58,59,61,92,60,62,64,126,42,48,49]:List UInt8)[j.toNat]? λ b_1=>
            bif decide ((↑b.toNat:Int)=(↑b_1.toNat:Int)) then
              some (Out.ret (V.d (D.int .i64 (1:Int))),[])
            else
              LP cx zn n 201 0 7 k
                [(0,V.d (D.str s)),(1,V.d (D.int .i64 i)),
                  (6,V.d (D.str [40,41,91,93,44,46,58,59,61,92,60,62,64,126,42,48,49])),
                  (7,V.d (D.int .i64 (IntKind.i64.wrap (j+(1:Int)))))]
                [] (AK cx zn n 201 0 7 (EK cx 201 0))))
  else some (Out.ret (V.d (D.int .i64 (0:Int))),[]):=by kernel_rfl
def zhj:List UInt8:=[40,41,91,93,44,46,58,59,61,92,60,62,64,126,42,48,49]
theorem zmq(b:UInt8)(r:List UInt8):∀ l:List UInt8,yf (b::r) (l.map λ x=>[x])=bif l.any (λ x=>decide (b=x)) then (2,[b]) else (0,[])
 | []=>rfl
 | x::l=>by
  have ih:=zmq b r l;simp only [List.map_cons,yf,List.any_cons];have h:zp (b::r) [x]=decide (b=x):=by simp [zp]
  rw [h,ih];by_cases hx:b=x
  ·subst hx; simp
  ·rw [pb hx]; simp
def yc(s:List UInt8)(i:Int):Int:=((yf (s.drop i.toNat) zdp).2.length:Int)
theorem zrm{s:List UInt8}{n i:Nat}{b:UInt8}(hg:s[i]?=some b):∀ (r:List UInt8) (j k:Nat),zhj.drop j=r→r.length<k →
  LP cx zn n 201 0 7 k [(0,.d (.str s)),(1,.d (.int .i64 (i:Int))),(6,.d (.str zhj)),(7,.d (.int .i64 (j:Int)))] [] (AK cx zn n 201 0 7 (EK cx 201 0))=some (.ret (.d (.int .i64 (bif r.any (λ x=>decide (b=x)) then 1 else 0))),[])
 | _,_,0,_,hk=>by omega
 | [],j,k+1,hr,_=>by
  have h1:=drop_nil hr;have h2:(17:Nat)≤j:=h1;unfold zhj;rw [l19,pb (p:=(j:Int)<17) (by omega),cond_false]
  rfl
 | x::r,j,k+1,hr,hk=>by
  obtain ⟨h1,h2,h3⟩:=drop_cons hr;have h1':j<17:=h1;have ih:=zrm (n:=n) hg r (j+1) k h3 (by simpa using hk)
  have hlt:i<s.length:=(pj.1 hg).1;unfold zhj at h2 ih ⊢;rw [l19]
  simp only [pa (p:=(j:Int)<17) (by omega),cond_true,pa (p:=(0:Int)≤(i:Int)) (by omega),pa (p:=(i:Int)<(s.length:Int)) (by omega),Bool.and_self,zb,pm,hg,zc,
   pa (p:=(0:Int)≤(j:Int)) (by omega),pa (p:=(j:Int)<((List.length [(40:UInt8),41,91,93,44,46,58,59,61,92,60,62,64,126,42,48,49]:Nat):Int)) (by simp; omega),h2]
  rw [wrapN (by omega) (by omega),show (j:Int)+1=((j+1:Nat):Int) by omega,ih,List.any_cons]
  by_cases hx:b=x
  ·subst hx; simp
  ·rw [pb hx,pb (p:=(b.toNat:Int)=(x.toNat:Int)) (by intro h; exact hx (UInt8.toNat_inj.1 (by omega)))]
   simp
theorem zw3:zdp=[45,62]::[47,92]::[92,47]::zhj.map λ x=>[x]:=rfl
theorem yb2(s:List UInt8)(j:Nat)(hs:s.length≤4611686018427387904)(hj:j<s.length):zh cx 201 [.d (.str s),.d (.int .i64 (j:Int))] []=some (.ret (.d (.int .i64 (yc s (j:Int)))),[]):=by
 refine x7 (N:=18) (y9 cx) ?_;obtain ⟨b,hg⟩:∃ b,s[j]?=some b:=⟨_,pr hj⟩;obtain ⟨r,hd⟩:∃ r,s.drop j=b::r:=⟨_,by rw [List.drop_eq_getElem_cons hj]; congr 1; exact Option.some.inj ((pr hj).symm.trans hg)⟩
 have ho:=zrm (n:=18) hg zhj 0 18 rfl (by decide)
 have w1:IntKind.i64.wrap ((j:Int)+1)=((j+1:Nat):Int):=by rw [wrapN (by omega) (by omega)]; omega
 have w2:IntKind.i64.wrap ((j:Int)+2)=((j+2:Nat):Int):=by rw [wrapN (by omega) (by omega)]; omega
 have hlen:(b::r).length=s.length - j:=by rw [←hd]; simp
 rw [b19,w1,w2];unfold yc;simp only [pm,hd,zw3,yf,zmq,List.drop_take,show j+2 - j=2 by omega,zp,List.length_cons,List.length_nil,Nat.zero_add,Nat.reduceAdd]
 generalize zhj.any (λ x=>decide (b=x))=A at ho ⊢;by_cases h1:j+1<s.length
 ·simp only [pa (p:=((j+1:Nat):Int)<(s.length:Int)) (by omega),pa (p:=(0:Int)≤((j+2:Nat):Int)) (by omega),pa (p:=((j+2:Nat):Int)≤(s.length:Int)) (by omega),
   pa (p:=(0:Int)≤(j:Int)) (by omega),pa (p:=(j:Int)≤((j+2:Nat):Int)) (by omega),Bool.and_self,zb,cond_true]
  cases hA:decide (List.take 2 (b::r)=[45,62])
  ·cases hB:decide (List.take 2 (b::r)=[47,92])
   ·cases hC:decide (List.take 2 (b::r)=[92,47])
    ·rw [cond_false,cond_false,cond_false];refine ho.trans ?_;cases A <;> rfl
    ·rfl
   ·rfl
  ·rfl
 ·have hr:r=[]:=by cases r with | nil=>rfl | cons c r=>simp at hlen; omega
  subst hr;rw [pb (p:=((j+1:Nat):Int)<(s.length:Int)) (by omega),cond_false]
  simp only [pb (p:=List.take 2 [b]=[45,62]) (by simp),pb (p:=List.take 2 [b]=[47,92]) (by simp),pb (p:=List.take 2 [b]=[92,47]) (by simp),cond_false]
  refine ho.trans ?_;cases A <;> rfl
def znt(s:List UInt8):Int:=match vi s.length s 0 with | some p=>(p:Int) | none=>-1
def z7d:List V→Option Out | [.d (.str s)]=>some (.ret (.d (.int .i64 (znt s)))) | _=>none
def z7i:List V→Option Out | [.d (.str s),.d (.int .i64 i)]=>some (.ret (.d (.int .i64 (yc s i)))) | _=>none
def S8:yz:=zif 197 z7d (zif 198 (zsq Sp.blank) (zif 199 (zsq Sp.letter) (zif 200 (zsq Sp.digit) (zif 201 z7i zn))))
theorem z5o:knows cx S8 (zh cx):=by
 refine wi (wi (wi (wi (wi (y9 cx) ?_) ?_) ?_) ?_) ?_
 ·intro args o hd h;unfold z7i at h;split at h
  ·cases h;rename_i s a;have hd':(decide (s.length≤big)&&(decide (0≤a)&&decide (a<(s.length:Int))))=true:=hd;simp only [ph,decide_eq_true_eq] at hd';obtain ⟨h1,h2,h3⟩:=hd';have:=yb2 s a.toNat h1 (by omega)
   rw [show ((a.toNat:Nat):Int)=a by omega] at this
   exact this
  ·cases h
 ·intro args o _ h;obtain ⟨c,rfl,rfl⟩:=zhe h;exact yb3 c
 ·intro args o _ h;obtain ⟨c,rfl,rfl⟩:=zhe h;exact yb4 c
 ·intro args o _ h;obtain ⟨c,rfl,rfl⟩:=zhe h;exact yb5 c
 ·intro args o hd h;unfold z7d at h;split at h
  ·cases h; exact yb6 _ (pc hd)
  ·cases h
theorem b8(n:Nat)(s:List UInt8) :
    zl cx S8 n 166 [.d (.str s)] [] =
  bif decide ((65536:Int)<(↑s.length:Int)) then
    some
      (Out.ret (V.tup [V.d (D.sl 3 []),V.d (D.int .i64 (0:Int)),V.d (D.int .i64 (3:Int))]),
        [])
  else
    zb (decide (s.length≤big))
      (bif decide ((0:Int)≤znt s) then
        some
          (Out.ret
              (V.tup [V.d (D.sl 3 []),V.d (D.int .i64 (znt s)),V.d (D.int .i64 (60:Int))]),
            [])
      else
        LP cx S8 n 166 0 8 n [(0,V.d (D.str s)),(6,V.sl 3 [] 6),(7,V.d (D.int .i64 (0:Int)))]
          [(6,Ob.tok 0)] (AK cx S8 n 166 0 8 (EK cx 166 0))):=by kernel_rfl
theorem l8(n k:Nat)(s:List UInt8)(i:Int)(l:List D) :
    LP cx S8 n 166 0 8 (k+1) [(0,.d (.str s)),(6,.sl 3 l 6),(7,.d (.int .i64 i))] [(6,.tok l.length)] (AK cx S8 n 166 0 8 (EK cx 166 0)) =
  bif decide (i<(↑s.length:Int)) then
    zb (decide (0≤i)&&decide (i<(↑s.length:Int)))
      (zc s[i.toNat]? λ b=>
        bif Sp.blank (↑b.toNat:Int) then
          LP cx S8 n 166 0 8 k
            [(0,V.d (D.str s)),(6,V.sl 3 l 6),(7,V.d (D.int .i64 (IntKind.i64.wrap (i+(1:Int)))))]
            [(6,Ob.tok l.length)] (AK cx S8 n 166 0 8 (EK cx 166 0))
        else
          zb (decide (0≤i)&&decide (i<(↑s.length:Int)))
            (zc s[i.toNat]? λ b=>
              bif decide ((↑b.toNat:Int)=(45:Int)) then
                bif decide (IntKind.i64.wrap (i+(1:Int))<(↑s.length:Int)) then
                  zb
                    (decide (0≤IntKind.i64.wrap (i+(1:Int))) &&
                      decide (IntKind.i64.wrap (i+(1:Int))<(↑s.length:Int)))
                    (zc s[(IntKind.i64.wrap (i+(1:Int))).toNat]? λ b=>
                      bif decide ((↑b.toNat:Int)=(45:Int)) then
                        LP cx S8 n 166 0 12 n [(0,V.d (D.str s)),(6,V.sl 3 l 6),(7,V.d (D.int .i64 i))]
                          [(6,Ob.tok l.length)]
                          (AL cx S8 n 166 0 8 12 (inK cx S8 n 166 0 8 k (AK cx S8 n 166 0 8 (EK cx 166 0))))
                      else
                        zb (decide (0≤i)&&decide (i<(↑s.length:Int)))
                          (zc s[i.toNat]? λ b=>
                            bif Sp.letter (↑b.toNat:Int) then
                              LP cx S8 n 166 0 18 n
                                [(0,V.d (D.str s)),(6,V.sl 3 l 6),(7,V.d (D.int .i64 i)),
                                  (8,V.d (D.int .i64 i)),(9,V.d (D.int .i64 (1:Int)))]
                                [(6,Ob.tok l.length)]
                                (AL cx S8 n 166 0 8 18 (inK cx S8 n 166 0 8 k (AK cx S8 n 166 0 8 (EK cx 166 0))))
                            else
                              zb (decide (s.length≤big)&&(decide (0≤i)&&decide (i<(↑s.length:Int))))
                                (bif decide (IntKind.i64.wrap (i+yc s i)=i) then
                                  some
                                    (Out.ret
                                        (V.tup
                                          [V.d (D.sl 3 []),V.d (D.int .i64 i),
                                            V.d (D.int .i64 (61:Int))]),
                                      [])
                                else
                                  zb
                                    (decide (0≤IntKind.i64.wrap (i+yc s i)) &&
                                      decide (IntKind.i64.wrap (i+yc s i)≤(↑s.length:Int)))
                                    (zb
                                      (decide (0≤i) &&
                                        decide (i≤(↑(IntKind.i64.wrap (i+yc s i)).toNat:Int)))
                                      (zb
                                        (decide (l.length=l.length) &&
                                          decide
                                            (l.length +
                                                [D.agg
                                                      [D.int .i64 (2:Int),
                                                        D.str
                                                          (List.drop i.toNat
                                                            (List.take (IntKind.i64.wrap (i+yc s i)).toNat s)),
                                                        D.int .i64 i]].length ≤
                                              4294967296))
                                        (LP cx S8 n 166 0 8 k
                                          [(0,V.d (D.str s)),
                                            (6,
                                              V.sl 3
                                                (l ++
                                                  [D.agg
                                                      [D.int .i64 (2:Int),
                                                        D.str
                                                          (List.drop i.toNat
                                                            (List.take (IntKind.i64.wrap (i+yc s i)).toNat s)),
                                                        D.int .i64 i]])
                                                6),
                                            (7,V.d (D.int .i64 (IntKind.i64.wrap (i+yc s i))))]
                                          [(6,
                                              Ob.tok
                                                (l.length +
                                                  [D.agg
                                                        [D.int .i64 (2:Int),
                                                          D.str
                                                            (List.drop i.toNat
                                                              (List.take (IntKind.i64.wrap (i+yc s i)).toNat
                                                                s)),
                                                          D.int .i64 i]].length))]
                                          (AK cx S8 n 166 0 8 (EK cx 166 0))))))))
                else
                  zb (decide (0≤i)&&decide (i<(↑s.length:Int)))
                    (zc s[i.toNat]? λ b=>
                      bif Sp.letter (↑b.toNat:Int) then
                        LP cx S8 n 166 0 18 n
                          [(0,V.d (D.str s)),(6,V.sl 3 l 6),(7,V.d (D.int .i64 i)),
                            (8,V.d (D.int .i64 i)),(9,V.d (D.int .i64 (1:Int)))]
                          [(6,Ob.tok l.length)]
                          (AL cx S8 n 166 0 8 18 (inK cx S8 n 166 0 8 k (AK cx S8 n 166 0 8 (EK cx 166 0))))
                      else
                        zb (decide (s.length≤big)&&(decide (0≤i)&&decide (i<(↑s.length:Int))))
                          (bif decide (IntKind.i64.wrap (i+yc s i)=i) then
                            some
                              (Out.ret
                                  (V.tup
                                    [V.d (D.sl 3 []),V.d (D.int .i64 i),
                                      V.d (D.int .i64 (61:Int))]),
                                [])
                          else
                            zb
                              (decide (0≤IntKind.i64.wrap (i+yc s i)) &&
                                decide (IntKind.i64.wrap (i+yc s i)≤(↑s.length:Int)))
                              (zb
                                (decide (0≤i)&&decide (i≤(↑(IntKind.i64.wrap (i+yc s i)).toNat:Int)))
                                (zb
                                  (decide (l.length=l.length) &&
                                    decide
                                      (l.length +
                                          [D.agg
                                                [D.int .i64 (2:Int),
                                                  D.str
                                                    (List.drop i.toNat
                                                      (List.take (IntKind.i64.wrap (i+yc s i)).toNat s)),
                                                  D.int .i64 i]].length ≤
                                        4294967296))
                                  (LP cx S8 n 166 0 8 k
                                    [(0,V.d (D.str s)),
                                      (6,
                                        V.sl 3
                                          (l ++
                                            [D.agg
                                                [D.int .i64 (2:Int),
                                                  D.str
                                                    (List.drop i.toNat
                                                      (List.take (IntKind.i64.wrap (i+yc s i)).toNat s)),
                                                  D.int .i64 i]])
                                          6),
                                      (7,V.d (D.int .i64 (IntKind.i64.wrap (i+yc s i))))]
                                    [(6,
                                        Ob.tok
                                          (l.length +
                                            [D.agg
                                                  [D.int .i64 (2:Int),
                                                    D.str
                                                      (List.drop i.toNat
                                                        (List.take (IntKind.i64.wrap (i+yc s i)).toNat s)),
                                                    D.int .i64 i]].length))]
                                    (AK cx S8 n 166 0 8 (EK cx 166 0)))))))
              else
                zb (decide (0≤i)&&decide (i<(↑s.length:Int)))
                  (zc s[i.toNat]? λ b=>
                    bif Sp.letter (↑b.toNat:Int) then
                      LP cx S8 n 166 0 18 n
                        [(0,V.d (D.str s)),(6,V.sl 3 l 6),(7,V.d (D.int .i64 i)),
                          (8,V.d (D.int .i64 i)),(9,V.d (D.int .i64 (1:Int)))]
                        [(6,Ob.tok l.length)]
                        (AL cx S8 n 166 0 8 18 (inK cx S8 n 166 0 8 k (AK cx S8 n 166 0 8 (EK cx 166 0))))
                    else
                      zb (decide (s.length≤big)&&(decide (0≤i)&&decide (i<(↑s.length:Int))))
                        (bif decide (IntKind.i64.wrap (i+yc s i)=i) then
                          some
                            (Out.ret
                                (V.tup
                                  [V.d (D.sl 3 []),V.d (D.int .i64 i),V.d (D.int .i64 (61:Int))]),
                              [])
                        else
                          zb
                            (decide (0≤IntKind.i64.wrap (i+yc s i)) &&
                              decide (IntKind.i64.wrap (i+yc s i)≤(↑s.length:Int)))
                            (zb (decide (0≤i)&&decide (i≤(↑(IntKind.i64.wrap (i+yc s i)).toNat:Int)))
                              (zb
                                (decide (l.length=l.length) &&
                                  decide
                                    (l.length +
                                        [D.agg
                                              [D.int .i64 (2:Int),
                                                D.str
                                                  (List.drop i.toNat
                                                    (List.take (IntKind.i64.wrap (i+yc s i)).toNat s)),
                                                D.int .i64 i]].length ≤
                                      4294967296))
                                (LP cx S8 n 166 0 8 k
                                  [(0,V.d (D.str s)),
                                    (6,
                                      V.sl 3
                                        (l ++
                                          [D.agg
                                              [D.int .i64 (2:Int),
                                                D.str
                                                  (List.drop i.toNat
                                                    (List.take (IntKind.i64.wrap (i+yc s i)).toNat s)),
                                                D.int .i64 i]])
                                        6),
                                    (7,V.d (D.int .i64 (IntKind.i64.wrap (i+yc s i))))]
                                  [(6,
                                      Ob.tok
                                        (l.length +
                                          [D.agg
                                                [D.int .i64 (2:Int),
                                                  D.str
                                                    (List.drop i.toNat
                                                      (List.take (IntKind.i64.wrap (i+yc s i)).toNat s)),
                                                  D.int .i64 i]].length))]
                                  (AK cx S8 n 166 0 8 (EK cx 166 0)))))))))
  else
    zb
      (decide (l.length=l.length) &&
        decide
          (l.length+[D.agg [D.int .i64 (0:Int),D.str [],D.int .i64 (↑s.length:Int)]].length ≤
            4294967296))
      (some
        (Out.ret
            (V.tup
              [V.d
                  (D.sl 3
                    (l++[D.agg [D.int .i64 (0:Int),D.str [],D.int .i64 (↑s.length:Int)]])),
                V.d (D.int .i64 (0:Int)),V.d (D.int .i64 (0:Int))]),
          [])):=by kernel_rfl
theorem l8c(n k k':Nat)(s:List UInt8)(i:Int)(l:List D) :
    LP cx S8 n 166 0 12 (k+1) [(0,.d (.str s)),(6,.sl 3 l 6),(7,.d (.int .i64 i))] [(6,.tok l.length)] (AL cx S8 n 166 0 8 12 (inK cx S8 n 166 0 8 k' (AK cx S8 n 166 0 8 (EK cx 166 0)))) =
  bif decide (i<(↑s.length:Int)) then
    zb (decide (0≤i)&&decide (i<(↑s.length:Int)))
      (zc s[i.toNat]? λ b=>
        bif !decide ((↑b.toNat:Int)=(10:Int)) then
          LP cx S8 n 166 0 12 k
            [(0,V.d (D.str s)),(6,V.sl 3 l 6),(7,V.d (D.int .i64 (IntKind.i64.wrap (i+(1:Int)))))]
            [(6,Ob.tok l.length)] (AL cx S8 n 166 0 8 12 (inK cx S8 n 166 0 8 k' (AK cx S8 n 166 0 8 (EK cx 166 0))))
        else
          LP cx S8 n 166 0 8 k' [(0,V.d (D.str s)),(6,V.sl 3 l 6),(7,V.d (D.int .i64 i))]
            [(6,Ob.tok l.length)] (AK cx S8 n 166 0 8 (EK cx 166 0)))
  else
    LP cx S8 n 166 0 8 k' [(0,V.d (D.str s)),(6,V.sl 3 l 6),(7,V.d (D.int .i64 i))] [(6,Ob.tok l.length)]
      (AK cx S8 n 166 0 8 (EK cx 166 0)):=by kernel_rfl
theorem l8n(n k k':Nat)(s:List UInt8)(i e:Int)(l:List D) :
    LP cx S8 n 166 0 18 (k+1) [(0,.d (.str s)),(6,.sl 3 l 6),(7,.d (.int .i64 i)),(8,.d (.int .i64 e)),(9,.d (.int .i64 1))] [(6,.tok l.length)] (AL cx S8 n 166 0 8 18 (inK cx S8 n 166 0 8 k' (AK cx S8 n 166 0 8 (EK cx 166 0)))) =
  bif decide (e<(↑s.length:Int)) then
    zb (decide (0≤e)&&decide (e<(↑s.length:Int)))
      (zc s[e.toNat]? λ b=>
        bif Sp.letter (↑b.toNat:Int) then
          LP cx S8 n 166 0 18 k
            [(0,V.d (D.str s)),(6,V.sl 3 l 6),(7,V.d (D.int .i64 i)),
              (8,V.d (D.int .i64 (IntKind.i64.wrap (e+(1:Int))))),
              (9,V.d (D.int .i64 (1:Int)))]
            [(6,Ob.tok l.length)] (AL cx S8 n 166 0 8 18 (inK cx S8 n 166 0 8 k' (AK cx S8 n 166 0 8 (EK cx 166 0))))
        else
          zb (decide (0≤e)&&decide (e<(↑s.length:Int)))
            (zc s[e.toNat]? λ b=>
              bif Sp.digit (↑b.toNat:Int) then
                LP cx S8 n 166 0 18 k
                  [(0,V.d (D.str s)),(6,V.sl 3 l 6),(7,V.d (D.int .i64 i)),
                    (8,V.d (D.int .i64 (IntKind.i64.wrap (e+(1:Int))))),
                    (9,V.d (D.int .i64 (1:Int)))]
                  [(6,Ob.tok l.length)] (AL cx S8 n 166 0 8 18 (inK cx S8 n 166 0 8 k' (AK cx S8 n 166 0 8 (EK cx 166 0))))
              else
                bif decide (e=i) then
                  some
                    (Out.ret
                        (V.tup [V.d (D.sl 3 []),V.d (D.int .i64 i),V.d (D.int .i64 (61:Int))]),
                      [])
                else
                  zb (decide (0≤e)&&decide (e≤(↑s.length:Int)))
                    (zb (decide (0≤i)&&decide (i≤(↑e.toNat:Int)))
                      (zb
                        (decide (l.length=l.length) &&
                          decide
                            (l.length +
                                [D.agg
                                      [D.int .i64 (1:Int),D.str (List.drop i.toNat (List.take e.toNat s)),
                                        D.int .i64 i]].length ≤
                              4294967296))
                        (LP cx S8 n 166 0 8 k'
                          [(0,V.d (D.str s)),
                            (6,
                              V.sl 3
                                (l ++
                                  [D.agg
                                      [D.int .i64 (1:Int),D.str (List.drop i.toNat (List.take e.toNat s)),
                                        D.int .i64 i]])
                                6),
                            (7,V.d (D.int .i64 e))]
                          [(6,
                              Ob.tok
                                (l.length +
                                  [D.agg
                                        [D.int .i64 (1:Int),
                                          D.str (List.drop i.toNat (List.take e.toNat s)),
                                          D.int .i64 i]].length))]
                          (AK cx S8 n 166 0 8 (EK cx 166 0)))))))
  else
    bif decide (e=i) then
      some (Out.ret (V.tup [V.d (D.sl 3 []),V.d (D.int .i64 i),V.d (D.int .i64 (61:Int))]),[])
    else
      zb (decide (0≤e)&&decide (e≤(↑s.length:Int)))
        (zb (decide (0≤i)&&decide (i≤(↑e.toNat:Int)))
          (zb
            (decide (l.length=l.length) &&
              decide
                (l.length +
                    [D.agg
                          [D.int .i64 (1:Int),D.str (List.drop i.toNat (List.take e.toNat s)),
                            D.int .i64 i]].length ≤
                  4294967296))
            (LP cx S8 n 166 0 8 k'
              [(0,V.d (D.str s)),
                (6,
                  V.sl 3
                    (l ++
                      [D.agg
                          [D.int .i64 (1:Int),D.str (List.drop i.toNat (List.take e.toNat s)),
                            D.int .i64 i]])
                    6),
                (7,V.d (D.int .i64 e))]
              [(6,
                  Ob.tok
                    (l.length +
                      [D.agg
                            [D.int .i64 (1:Int),D.str (List.drop i.toNat (List.take e.toNat s)),
                              D.int .i64 i]].length))]
              (AK cx S8 n 166 0 8 (EK cx 166 0))))):=by kernel_rfl
abbrev fr8(s:List UInt8)(j:Nat)(l:List D):Fr:=[(0,.d (.str s)),(6,.sl 3 l 6),(7,.d (.int .i64 (j:Int)))]
abbrev L8 (n k:Nat) (s:List UInt8) (j:Nat) (l:List D):Option (Out×St):=LP cx S8 n 166 0 8 k (fr8 s j l) [(6,.tok l.length)] (AK cx S8 n 166 0 8 (EK cx 166 0))
theorem zzo{s:List UInt8}(hs:s.length≤65536)(n k':Nat)(l:List D):∀ (r:List UInt8) (j k:Nat),s.drop j=r→j≤s.length→r.length<k →
  ∃ j',LP cx S8 n 166 0 12 k (fr8 s j l) [(6,.tok l.length)] (AL cx S8 n 166 0 8 12 (inK cx S8 n 166 0 8 k' (AK cx S8 n 166 0 8 (EK cx 166 0))))=L8 n k' s j' l∧j≤j'∧j'≤s.length∧y6 true r j=Sp.past s j'∧(∀ b r',r=b::r'→¬ (b.toNat:Int)=10→j<j')
 | _,_,0,_,_,hk=>by omega
 | [],j,k+1,hr,hj,_=>by
  have h1:=drop_nil hr;refine ⟨j,?_,Nat.le_refl _,hj,?_,λ b r' h=>by cases h⟩
  ·rw [l8c,pb (p:=(j:Int)<(s.length:Int)) (by omega)]; rfl
  ·unfold Sp.past; rw [hr]; rfl
 | b::r,j,k+1,hr,hj,hk=>by
  obtain ⟨h1,h2,h3⟩:=drop_cons hr;by_cases hb:(b.toNat:Int)=10
  ·refine ⟨j,?_,Nat.le_refl _,hj,?_,λ b' r' h hn=>by cases h; exact absurd hb hn⟩
   ·rw [l8c];simp only [pa (p:=(j:Int)<(s.length:Int)) (by omega),pa (p:=(0:Int)≤(j:Int)) (by omega),cond_true,Bool.and_self,zb,pm,h2,zc,pa hb,Bool.not_true,cond_false]
   ·unfold Sp.past;rw [hr,y6,y6,pa hb,hb]; rfl
  ·obtain ⟨j',e1,e2,e3,e4,_⟩:=zzo hs n k' l r (j+1) k h3 h1 (by simpa using hk)
   refine ⟨j',?_,by omega,e3,?_,λ _ _ _ _=>by omega⟩
   ·rw [l8c];simp only [pa (p:=(j:Int)<(s.length:Int)) (by omega),pa (p:=(0:Int)≤(j:Int)) (by omega),cond_true,Bool.and_self,zb,pm,h2,zc,pb hb,Bool.not_false]
    rw [zq0 (by omega)]
    exact e1
   ·rw [y6,pb hb]; exact e4
theorem zzn{s : List UInt8}{n k' j e : Nat}{l : List D}(hje : j < e)(he : e ≤ s.length)(hl : l.length ≤ 65536) :
    (bif decide ((e : Int) = (j : Int)) then
                  some
                    (Out.ret
                        (V.tup [V.d (D.sl 3 []), V.d (D.int .i64 (j : Int)), V.d (D.int .i64 (61 : Int))]),
                      [])
                else
                  zb (decide (0 ≤ (e : Int)) && decide ((e : Int) ≤ (↑s.length : Int)))
                    (zb (decide (0 ≤ (j : Int)) && decide ((j : Int) ≤ (e : Int)))
                      (zb
                        (decide (l.length = l.length) &&
                          decide
                            (l.length +
                                [D.agg
                                      [D.int .i64 (1 : Int), D.str (List.drop j (List.take e s)),
                                        D.int .i64 (j : Int)]].length ≤
                              4294967296))
                        (LP cx S8 n 166 0 8 k'
                          [(0, V.d (D.str s)),
                            (6,
                              V.sl 3
                                (l ++
                                  [D.agg
                                      [D.int .i64 (1 : Int), D.str (List.drop j (List.take e s)),
                                        D.int .i64 (j : Int)]])
                                6),
                            (7, V.d (D.int .i64 (e : Int)))]
                          [(6,
                              Ob.tok
                                (l.length +
                                  [D.agg
                                        [D.int .i64 (1 : Int),
                                          D.str (List.drop j (List.take e s)),
                                          D.int .i64 (j : Int)]].length))]
                          (AK cx S8 n 166 0 8 (EK cx 166 0)))))) = L8 n k' s e (l ++ [zi5 1 ((s.drop j).take (e - j)) (j : Int)]) := by
  rw [List.drop_take]
  simp only [pb (p := (e : Int) = (j : Int)) (by omega), cond_false, zb, pa (p := (0 : Int) ≤ (e : Int)) (by omega), pa (p := (e : Int) ≤ (s.length : Int)) (by omega),
    pa (p := (0 : Int) ≤ (j : Int)) (by omega), pa (p := (j : Int) ≤ (e : Int)) (by omega), Bool.and_self, cond_true, decide_true, List.length_singleton, pa (p := l.length + 1 ≤ 4294967296) (by omega)]
  unfold L8;rw [pe];rfl
theorem zzp{s:List UInt8}(hs:s.length≤65536)(n k' j:Nat){l:List D}(hl:l.length≤65536):∀ (r:List UInt8) (e k:Nat),s.drop e=r→j<e→e≤s.length→r.length<k →
  LP cx S8 n 166 0 18 k [(0,.d (.str s)),(6,.sl 3 l 6),(7,.d (.int .i64 (j:Int))),(8,.d (.int .i64 (e:Int))),(9,.d (.int .i64 1))] [(6,.tok l.length)] (AL cx S8 n 166 0 8 18 (inK cx S8 n 166 0 8 k' (AK cx S8 n 166 0 8 (EK cx 166 0)))) =
   L8 n k' s (j+wk r (e - j)) (l++[zi5 1 ((s.drop j).take (wk r (e - j))) (j:Int)])
 | _,_,0,_,_,_,hk=>by omega
 | [],e,k+1,hr,hje,he,_=>by
  have h1:=drop_nil hr;rw [l8n,pb (p:=(e:Int)<(s.length:Int)) (by omega),cond_false]
  refine (zzn (n:=n) (k':=k') hje he hl).trans ?_;rw [wk,show j+(e - j)=e by omega]
 | b::r,e,k+1,hr,hje,he,hk=>by
  obtain ⟨h1,h2,h3⟩:=drop_cons hr;have ih:=zzp hs n k' j hl r (e+1) k h3 (by omega) h1 (by simpa using hk)
  have hle:=zl0 (b::r) (e - j);rw [l8n];simp only [pa (p:=(e:Int)<(s.length:Int)) (by omega),pa (p:=(0:Int)≤(e:Int)) (by omega),cond_true,Bool.and_self,zb,pm,h2,zc,wk,pa (p:=0<e - j) (by omega),Bool.true_and]
  rw [zq0 (by omega)]
  cases Sp.letter (b.toNat:Int)
  ·cases Sp.digit (b.toNat:Int)
   ·have st:=zzn (n:=n) (k':=k') hje he hl;simp only [pa (p:=(0:Int)≤(e:Int)) (by omega),pa (p:=(e:Int)≤(s.length:Int)) (by omega),zb,cond_true,Bool.and_self] at st
    simp only [cond_false,Bool.or_self,pa (p:=(e:Int)≤(s.length:Int)) (by omega),cond_true]
    rw [show j+(e - j)=e by omega]
    exact st
   ·simp only [cond_false,cond_true,Bool.or_true];rw [show e - j+1=e+1 - j by omega]; exact ih
  ·simp only [cond_true,Bool.true_or];rw [show e - j+1=e+1 - j by omega]; exact ih
def zke(r:List D×Int×Int):Option (Out×St):=some (.ret (.tup [.d (.sl 3 r.1),.d (.int .i64 r.2.1),.d (.int .i64 r.2.2)]),[])
def R8(n k : Nat)(s : List UInt8)(i : Int)(l : List D) : Option (Out × St) :=
                zb (decide (0 ≤ i) && decide (i < (↑s.length : Int)))
                  (zc s[i.toNat]? λ b =>
                    bif Sp.letter (↑b.toNat : Int) then
                      LP cx S8 n 166 0 18 n
                        [(0, V.d (D.str s)), (6, V.sl 3 l 6), (7, V.d (D.int .i64 i)),
                          (8, V.d (D.int .i64 i)), (9, V.d (D.int .i64 (1 : Int)))]
                        [(6, Ob.tok l.length)]
                        (AL cx S8 n 166 0 8 18 (inK cx S8 n 166 0 8 k (AK cx S8 n 166 0 8 (EK cx 166 0))))
                    else
                      zb (decide (s.length ≤ big) && (decide (0 ≤ i) && decide (i < (↑s.length : Int))))
                        (bif decide (IntKind.i64.wrap (i + yc s i) = i) then
                          some
                            (Out.ret
                                (V.tup
                                  [V.d (D.sl 3 []), V.d (D.int .i64 i), V.d (D.int .i64 (61 : Int))]),
                              [])
                        else
                          zb
                            (decide (0 ≤ IntKind.i64.wrap (i + yc s i)) &&
                              decide (IntKind.i64.wrap (i + yc s i) ≤ (↑s.length : Int)))
                            (zb (decide (0 ≤ i) && decide (i ≤ (↑(IntKind.i64.wrap (i + yc s i)).toNat : Int)))
                              (zb
                                (decide (l.length = l.length) &&
                                  decide
                                    (l.length +
                                        [D.agg
                                              [D.int .i64 (2 : Int),
                                                D.str
                                                  (List.drop i.toNat
                                                    (List.take (IntKind.i64.wrap (i + yc s i)).toNat s)),
                                                D.int .i64 i]].length ≤
                                      4294967296))
                                (LP cx S8 n 166 0 8 k
                                  [(0, V.d (D.str s)),
                                    (6,
                                      V.sl 3
                                        (l ++
                                          [D.agg
                                              [D.int .i64 (2 : Int),
                                                D.str
                                                  (List.drop i.toNat
                                                    (List.take (IntKind.i64.wrap (i + yc s i)).toNat s)),
                                                D.int .i64 i]])
                                        6),
                                    (7, V.d (D.int .i64 (IntKind.i64.wrap (i + yc s i))))]
                                  [(6,
                                      Ob.tok
                                        (l.length +
                                          [D.agg
                                                [D.int .i64 (2 : Int),
                                                  D.str
                                                    (List.drop i.toNat
                                                      (List.take (IntKind.i64.wrap (i + yc s i)).toNat s)),
                                                  D.int .i64 i]].length))]
                                  (AK cx S8 n 166 0 8 (EK cx 166 0)))))))
theorem l8r(n k:Nat)(s:List UInt8)(i:Int)(l:List D) :
  LP cx S8 n 166 0 8 (k+1) [(0,.d (.str s)),(6,.sl 3 l 6),(7,.d (.int .i64 i))] [(6,.tok l.length)] (AK cx S8 n 166 0 8 (EK cx 166 0)) =
 bif decide (i<(↑s.length:Int)) then
  zb (decide (0≤i)&&decide (i<(↑s.length:Int)))
   (zc s[i.toNat]? λ b=>
    bif Sp.blank (↑b.toNat:Int) then
     LP cx S8 n 166 0 8 k
      [(0,V.d (D.str s)),(6,V.sl 3 l 6),(7,V.d (D.int .i64 (IntKind.i64.wrap (i+(1:Int)))))]
      [(6,Ob.tok l.length)] (AK cx S8 n 166 0 8 (EK cx 166 0))
    else
     zb (decide (0≤i)&&decide (i<(↑s.length:Int)))
      (zc s[i.toNat]? λ b=>
       bif decide ((↑b.toNat:Int)=(45:Int)) then
        bif decide (IntKind.i64.wrap (i+(1:Int))<(↑s.length:Int)) then
         zb
          (decide (0≤IntKind.i64.wrap (i+(1:Int))) &&
           decide (IntKind.i64.wrap (i+(1:Int))<(↑s.length:Int)))
          (zc s[(IntKind.i64.wrap (i+(1:Int))).toNat]? λ b=>
           bif decide ((↑b.toNat:Int)=(45:Int)) then
            LP cx S8 n 166 0 12 n [(0,V.d (D.str s)),(6,V.sl 3 l 6),(7,V.d (D.int .i64 i))]
             [(6,Ob.tok l.length)]
             (AL cx S8 n 166 0 8 12 (inK cx S8 n 166 0 8 k (AK cx S8 n 166 0 8 (EK cx 166 0))))
           else R8 n k s i l)
        else R8 n k s i l
       else R8 n k s i l))
 else
  zb
   (decide (l.length=l.length) &&
    decide
     (l.length+[D.agg [D.int .i64 (0:Int),D.str [],D.int .i64 (↑s.length:Int)]].length ≤
      4294967296))
   (some
    (Out.ret
      (V.tup
       [V.d
         (D.sl 3
          (l++[D.agg [D.int .i64 (0:Int),D.str [],D.int .i64 (↑s.length:Int)]])),
        V.d (D.int .i64 (0:Int)),V.d (D.int .i64 (0:Int))]),
     [])):=l8 n k s i l
theorem r8{s:List UInt8}(hs:s.length≤65536){n k j:Nat}(hn:s.length<n){l:List D}(hl:l.length≤65536){b:UInt8}{r:List UInt8}(hd:s.drop j=b::r) :
  R8 n k s (j:Int) l=bif decide ((Sp.one (s.drop j)).2=[]) then zke ([],j,61) else L8 n k s (j+(Sp.one (s.drop j)).2.length) (l++[zi5 (Sp.one (s.drop j)).1 (Sp.one (s.drop j)).2 (j:Int)]):=by
 obtain ⟨h1,h2,h3⟩:=drop_cons hd;have hlen:(b::r).length=s.length - j:=by rw [←hd]; simp
 unfold R8;simp only [pa (p:=(j:Int)<(s.length:Int)) (by omega),pa (p:=(0:Int)≤(j:Int)) (by omega),cond_true,Bool.and_self,zb,pm,h2,zc]
 rw [hd];cases hb:Sp.letter (b.toNat:Int)
 ·have hnl:yr (b::r)=0:=by simp only [yr,wk,hb]; rfl
  have hone:Sp.one (b::r)=yf (b::r) zdp:=by unfold Sp.one; rw [hnl]; rfl
  have hpre:=zzb (b::r);have hle:=ztc (b::r);have hk:=zmr (b::r) zdp;have hsg:yc s (j:Int)=((Sp.one (b::r)).2.length:Int):=by unfold yc; rw [pm,hd,hone]
  rw [←hone] at hk;generalize Sp.one (b::r)=o at hpre hle hk hsg hone ⊢;simp only [cond_false,hsg,pa (p:=s.length≤big) (by simp [big]; omega),pa (p:=(j:Int)≤(s.length:Int)) (by omega),cond_true,Bool.and_self]
  rw [wrapN (x:=(j:Int)+(o.2.length:Int)) (by omega) (by omega),show (j:Int)+(o.2.length:Int)=((j+o.2.length:Nat):Int) by omega]
  simp only [pm];by_cases ho:o.2=[]
  ·rw [pa ho,pa (p:=((j+o.2.length:Nat):Int)=(j:Int)) (by rw [ho]; rfl)]; rfl
  ·have hpos:0<o.2.length:=List.length_pos_iff.2 ho;have hk2:o.1=2:=hk.resolve_left ho;rw [pb ho,pb (p:=((j+o.2.length:Nat):Int)=(j:Int)) (by omega),List.drop_take,show j+o.2.length - j=o.2.length by omega,hd,←hpre,hk2]
   simp only [pa (p:=(0:Int)≤((j+o.2.length:Nat):Int)) (by omega),pa (p:=((j+o.2.length:Nat):Int)≤(s.length:Int)) (by omega),pa (p:=(j:Int)≤((j+o.2.length:Nat):Int)) (by omega),
    cond_true,cond_false,Bool.and_self,List.length_singleton,pa (p:=l.length+1≤4294967296) (by omega)]
   unfold L8;rw [pe];rfl
 ·have hnl:yr (b::r)=wk r 1:=by simp only [yr,wk,hb,Bool.true_or,cond_true,Nat.zero_add]
  have hge:=zrq r 1;have hle:=zjn (b::r);have hone:Sp.one (b::r)=(1,(b::r).take (yr (b::r))):=by unfold Sp.one; rw [pa (by omega)]; rfl
  have hl1:((b::r).take (yr (b::r))).length=yr (b::r):=by rw [List.length_take]; omega
  obtain ⟨n',hn'⟩:∃ i,n=i+1:=⟨n - 1,by omega⟩
  have st:=zzp hs n k j hl r (j+1) n' h3 (by omega) h1 (by simp at hlen; omega)
  rw [show j+1 - j=1 by omega,hd,←hnl] at st
  rw [cond_true,hone];simp only [];rw [hl1,pb (p:=(b::r).take (yr (b::r))=[]) (by intro h; rw [h] at hl1; simp at hl1; omega),cond_false,←st]
  conv=>lhs; arg 7; rw [hn']
  rw [l8n];simp only [pa (p:=(j:Int)<(s.length:Int)) (by omega),pa (p:=(0:Int)≤(j:Int)) (by omega),cond_true,Bool.and_self,zb,pm,h2,zc,hb]
  rw [zq0 (by omega)]
theorem z26{s:List UInt8}(hs:s.length≤65536){n:Nat}(hn:s.length<n):∀ (N j k f:Nat) (l:List D),s.length - j≤N→s.length - j<f→s.length - j<k→j≤s.length→l.length+(s.length - j)≤65536 →
  L8 n k s j l=zke (Sp.toks f s (Sp.past s j) l):=by
 intro N
 induction N with
 | zero=>
  intro j k f l hN hf hk hj hl;obtain ⟨k,rfl⟩:∃ i,k=i+1:=⟨k - 1,by omega⟩
  obtain ⟨f,rfl⟩:∃ i,f=i+1:=⟨f - 1,by omega⟩
  have hb:=zaz (s:=s) hj;have hll:decide (l.length=l.length)=true:=pa rfl;unfold L8;rw [l8r];simp only [pb (p:=(j:Int)<(s.length:Int)) (by omega),cond_false,Sp.toks,pb (p:=Sp.past s j<s.length) (by omega),hll,Bool.true_and,zb,List.length_singleton,pa (p:=l.length+1≤4294967296) (by omega),cond_true]
  rfl
 | succ N ih=>
  intro j k f l hN hf hk hj hl;by_cases hlt:s.length - j≤N
  ·exact ih j k f l hlt hf hk hj hl
  obtain ⟨k,rfl⟩:∃ i,k=i+1:=⟨k - 1,by omega⟩
  cases hd:s.drop j with
  | nil=>have:=drop_nil hd; omega
  | cons b r=>
   obtain ⟨h1,h2,h3⟩:=drop_cons hd;have hlen:(b::r).length=s.length - j:=by rw [←hd]; simp
   unfold L8;rw [l8r];simp only [pa (p:=(j:Int)<(s.length:Int)) (by omega),pa (p:=(0:Int)≤(j:Int)) (by omega),cond_true,Bool.and_self,zb,pm,h2,zc]
   rw [zq0 (by omega)]
   cases hb:Sp.blank (b.toNat:Int)
   ·-- a token,or a comment
    have tok:∀ (hp:Sp.past s j=j),R8 n k s (j:Int) l=zke (Sp.toks f s (Sp.past s j) l):=by
     intro hp;obtain ⟨f,rfl⟩:∃ i,f=i+1:=⟨f - 1,by omega⟩
     rw [r8 hs hn (by omega) hd,hp,Sp.toks,pa h1,cond_true]
     have hle:=ztc (s.drop j);rw [List.length_drop] at hle;by_cases ho:(Sp.one (s.drop j)).2=[]
     ·rw [pa ho]; rfl
     ·have hpos:0<(Sp.one (s.drop j)).2.length:=List.length_pos_iff.2 ho;rw [pb ho,cond_false,cond_false];exact ih _ k f _ (by omega) (by omega) (by omega) (by omega) (by simp; omega)
    have hpast:Sp.past s j=bif decide ((b.toNat:Int)=45)&&zp (b::r) [45,45] then y6 true r (j+1) else j:=by
     unfold Sp.past; rw [hd,y6,hb]; rfl
    simp only [cond_false];by_cases h45:(b.toNat:Int)=45
    ·rw [pa h45,Bool.true_and] at hpast;have hb45:b=45:=UInt8.toNat_inj.1 (by simp; omega)
     rw [pa h45,cond_true];cases r with
     | nil=>
      rw [pb (p:=((j+1:Nat):Int)<(s.length:Int)) (by simp at hlen; omega),cond_false]
      refine tok (hpast.trans ?_);rw [show zp [b] [45,45]=false by simp [zp]]; rfl
     | cons c r=>
      obtain ⟨h4,h5,h6⟩:=drop_cons h3;simp only [pa (p:=((j+1:Nat):Int)<(s.length:Int)) (by omega),pa (p:=(0:Int)≤((j+1:Nat):Int)) (by omega),cond_true,Bool.and_self,pm,h5]
      by_cases hc:(c.toNat:Int)=45
      ·have hc45:c=45:=UInt8.toNat_inj.1 (by simp; omega)
       rw [show zp (b::c::r) [45,45]=true by simp [zp,hb45,hc45],cond_true] at hpast
       rw [pa hc,cond_true];obtain ⟨j',e1,e2,e3,e4,e5⟩:=zzo hs n k l (b::c::r) j n hd hj (by omega)
       rw [y6,pb (by omega)] at e4
       have hjj:=e5 b (c::r) rfl (by omega)
       refine e1.trans ?_;rw [hpast];refine (ih j' k f l (by omega) (by omega) (by omega) e3 (by omega)).trans ?_
       rw [←e4]; rfl
      ·rw [pb hc,cond_false];refine tok (hpast.trans ?_);rw [show zp (b::c::r) [45,45]=false by
        simp only [zp,List.length_cons,List.length_nil,List.take]; exact pb λ h=>by simp at h; exact hc (by rw [h.2]; rfl)]
       rfl
    ·rw [pb h45,Bool.false_and] at hpast;rw [pb h45,cond_false];exact tok hpast
   ·have hpast:Sp.past s j=Sp.past s (j+1):=by
     unfold Sp.past; rw [hd,y6,hb,h3]; rfl
    rw [cond_true,hpast];exact ih (j+1) k f l (by omega) (by omega) (by omega) h1 (by omega)
theorem ye8(s:List UInt8)(hb:s.length≤big):zh cx 166 [.d (.str s)] []=zke (Sp.scan s):=by
 unfold Sp.scan;refine x7 (N:=s.length+1) z5o ?_;rw [b8];by_cases h:65536<s.length
 ·rw [pa h,cond_true,pa (p:=(65536:Int)<(s.length:Int)) (by omega)]
  rfl
 ·rw [pb h,cond_false,pb (p:=(65536:Int)<(s.length:Int)) (by omega),pa hb]
  simp only [cond_false,zb,cond_true];unfold znt;cases vi s.length s 0 with
  | none=>
   have hr:=z26 (s:=s) (by omega) (n:=s.length+1) (by omega) s.length 0 (s.length+1) (s.length+1) [] (by omega) (by omega) (by omega) (by omega) (by simp; omega)
   simp only [pb (p:=(0:Int)≤-1) (by omega),cond_false]
   exact hr
  | some p=>
   simp only [pa (p:=(0:Int)≤(p:Int)) (by omega)]
   rw [cond_true]
inductive T where
 | mk (k:Int) (nm:List UInt8) (kids:List T) (nms:List (List UInt8)) (pl:Int)
def T.k:T→Int | .mk k _ _ _ _=>k
def T.nm:T→List UInt8 | .mk _ n _ _ _=>n
def T.kids:T→List T | .mk _ _ l _ _=>l
def T.nms:T→List (List UInt8) | .mk _ _ _ l _=>l
def T.pl:T→Int | .mk _ _ _ _ a=>a
instance:Inhabited T:=⟨.mk 0 [] [] [] 0⟩
mutual
def T.d:T→D
 | .mk k nm kids nms pl=>.agg [.int .i64 k,.str nm,.sl 5 (T.ds kids),.sl 1 (nms.map .str),.int .i64 pl]
def T.ds:List T→List D
 | []=>[]
 | t::l=>t.d::T.ds l
end
mutual
def T.depth:T→Nat | .mk _ _ kids _ _=>T.depths kids+1
def T.depths:List T→Nat | []=>0 | t::l=>max t.depth (T.depths l)
end
theorem zxy(l:List T):T.ds l=l.map T.d:=by
 induction l with
 | nil=>rfl
 | cons t l ih=>simp only [T.ds,ih,List.map_cons]
theorem zo(l:List T):(T.ds l).length=l.length:=by rw [zxy,pf]
theorem zf8{t:T}:∀ {l:List T},t∈l→t.depth≤T.depths l
 | u::l,h=>by
  simp only [T.depths];cases h with
  | head=>omega
  | tail _ h=>have:=zf8 h; omega
def strs:List D→Option (List (List UInt8))
 | []=>some []
 | .str s::r=>(match strs r with | some l=>some (s::l) | none=>none)
 | _::_=>none
theorem zum(l:List (List UInt8)):strs (l.map .str)=some l:=by
 induction l with
 | nil=>rfl
 | cons s l ih=>simp only [List.map_cons,strs,ih]
theorem zim:∀ {l:List D} {m},strs l=some m→l=m.map .str
 | [],m,h=>by cases h; rfl
 | x::r,m,h=>by
  unfold strs at h;split at h
  ·rename_i he; cases he
  ·rename_i s q he;cases he;split at h
   ·rename_i l hl; cases h; rw [zim hl]; rfl
   ·cases h
  ·cases h
def yd{α:Type}(l:List α):Bool:=decide (l.length<4294967296)
def toL(f:D→Option T):List D→Option (List T)
 | []=>some []
 | x::r=>(match f x,toL f r with | some t,some l=>some (t::l) | _,_=>none)
def zg:Nat→D→Option T
 | 0,_=>none
 | n+1,.agg [.int .i64 k,.str nm,.sl 5 l,.sl 1 ns,.int .i64 pl]=>
  bif yd nm&&yd l&&yd ns then (match toL (zg n) l,strs ns with | some kids,some nms=>bif nms.all yd then some (.mk k nm kids nms pl) else none | _,_=>none) else none
 | _,_=>none
theorem zuj{f:D→Option T}:∀ {l:List D} {m},toL f l=some m→l.length=m.length∧∀ (i:Nat) x t,l[i]?=some x→m[i]?=some t→f x=some t
 | [],m,h=>by cases h; exact ⟨rfl,λ i x t h=>by simp at h⟩
 | x::r,m,h=>by
  unfold toL at h;split at h
  ·rename_i t l ht hl;cases h;obtain ⟨h1,h2⟩:=zuj hl;refine ⟨by simp [h1],λ i y u hy hu=>?_⟩
   cases i with
   | zero=>simp at hy hu; subst hy; subst hu; exact ht
   | succ i=>exact h2 i y u (by simpa using hy) (by simpa using hu)
  ·cases h
mutual
def T.ok:T→Bool
 | .mk _ nm kids nms _=>yd nm&&yd kids&&yd nms&&nms.all yd&&T.oks kids
def T.oks:List T→Bool
 | []=>true
 | t::l=>t.ok&&T.oks l
end
theorem wn{t:T}:∀ {l:List T},T.oks l=true→t∈l→t.ok=true
 | u::l,h,hm=>by
  simp only [T.oks,ph] at h;cases hm with
  | head=>exact h.1
  | tail _ hm=>exact wn h.2 hm
theorem y5:∀ {n:Nat} {x:D} {t:T},zg n x=some t→x=t.d∧t.depth≤n∧t.ok=true
 | 0,x,t,h=>by cases h
 | n+1,x,t,h=>by
  unfold zg at h;split at h
  ·rename_i he; cases he
  ·rename_i m k nm l ns pl he;cases he;cases hc:(yd nm&&yd l&&yd ns)
   ·rw [hc] at h; cases h
   ·rw [hc,cond_true] at h;split at h
    ·rename_i kids nms hk hn;cases hs:nms.all yd
     ·rw [hs] at h; cases h
     ·rw [hs,cond_true] at h;cases h;obtain ⟨h1,h2⟩:=zuj hk;simp only [ph] at hc;have key:∀ (l:List D) (m:List T),l.length=m.length→(∀ (i:Nat) x t,l[i]?=some x→m[i]?=some t→zg n x=some t)→l=T.ds m∧T.depths m≤n∧T.oks m=true:=by
       intro l
       induction l with
       | nil=>intro m hl _; cases m with | nil=>exact ⟨rfl,by simp [T.depths],rfl⟩ | cons=>simp at hl
       | cons x r ih=>
        intro m hl hx;cases m with
        | nil=>simp at hl
        | cons t m=>
         obtain ⟨a1,a2,a3⟩:=y5 (hx 0 x t rfl rfl);obtain ⟨b1,b2,b3⟩:=ih m (by simpa using hl) λ i y u hy hu=>hx (i+1) y u (by simpa using hy) (by simpa using hu)
         exact ⟨by rw [a1,b1]; rfl,by simp only [T.depths]; omega,by simp only [T.oks,a3,b3]; rfl⟩
      obtain ⟨c1,c2,c3⟩:=key l kids h1 h2;refine ⟨by rw [c1,zim hn]; rfl,by simp only [T.depth]; omega,?_⟩
      simp only [T.ok,hc.1.1,hs,c3,Bool.and_true,Bool.true_and,ph];refine ⟨?_,?_⟩
      ·have:=hc.1.2; unfold yd at this ⊢; rwa [h1] at this
      ·have:=hc.2; unfold yd at this ⊢; rwa [zim hn,pf] at this
    ·cases h
  ·cases h
theorem zdu:∀ {n:Nat} {t:T},t.depth≤n→t.ok=true→zg n t.d=some t
 | 0,.mk ..,h,_=>by simp [T.depth] at h
 | n+1,.mk k nm kids nms pl,h,hok=>by
  simp only [T.ok,ph] at hok;have key:∀ m:List T,T.depths m≤n→T.oks m=true→toL (zg n) (T.ds m)=some m:=by
   intro m
   induction m with
   | nil=>intro _ _; rfl
   | cons t m ih=>
    intro hd ho;simp only [T.depths] at hd;simp only [T.oks,ph] at ho;simp only [T.ds,toL,zdu (n:=n) (t:=t) (by omega) ho.1,ih (by omega) ho.2]
  simp only [T.depth] at h;simp only [T.d,zg,zum,key kids (by omega) hok.2]
  have e1:yd (T.ds kids)=true:=by have:=hok.1.1.1.2; unfold yd at this ⊢; rwa [zo]
  have e2:yd (nms.map D.str)=true:=by have:=hok.1.1.2; unfold yd at this ⊢; rwa [pf]
  rw [hok.1.1.1.1,e1,e2,hok.1.2];rfl
theorem zz{R:Type}{l:List T}{i:Nat}{K:D→Option R}:za (T.ds l) i K=zc l[i]? λ t=>K t.d:=by
 unfold za;rw [zxy,List.getElem?_map];cases l[i]? <;> rfl
theorem yb(t:T):t.d.cells=[.int .i64 t.k,.str t.nm,.sl 5 (T.ds t.kids),.sl 1 (t.nms.map .str),.int .i64 t.pl]:=by cases t; rfl
theorem wj(t:T):D.agg [.int .i64 t.k,.str t.nm,.sl 5 (T.ds t.kids),.sl 1 (t.nms.map .str),.int .i64 t.pl]=t.d:=by cases t; rfl
theorem zl8{k nm kids nms pl}:(T.mk k nm kids nms pl).k=k:=rfl
theorem zkr{k nm kids nms pl}:(T.mk k nm kids nms pl).nm=nm:=rfl
theorem zac{k nm kids nms pl}:(T.mk k nm kids nms pl).kids=kids:=rfl
theorem zgs{k nm kids nms pl}:(T.mk k nm kids nms pl).nms=nms:=rfl
theorem z7k{k nm kids nms pl}:(T.mk k nm kids nms pl).pl=pl:=rfl
theorem xo{R:Type}{a:D}{l:List D}{K:D→Option R}:za (a::l) 0 K=K a:=rfl
theorem wz{R:Type}{a b:D}{l:List D}{K:D→Option R}:za (a::b::l) 1 K=K b:=rfl
theorem vc{R:Type}{a b c:D}{l:List D}{K:D→Option R}:za (a::b::c::l) 2 K=K c:=rfl
theorem vb{R:Type}{a b c d:D}{l:List D}{K:D→Option R}:za (a::b::c::d::l) 3 K=K d:=rfl
theorem va{R:Type}{a b c d e:D}{l:List D}{K:D→Option R}:za (a::b::c::d::e::l) 4 K=K e:=rfl
theorem xx{R:Type}{l:List (List UInt8)}{i:Nat}{K:D→Option R}:za (l.map D.str) i K=zc l[i]? λ t=>K (.str t):=by
 unfold za;rw [List.getElem?_map];cases l[i]? <;> rfl
def zt{α β:Type}(f:Nat)(dec:List V→Option α)(sp:α→Option β)(mk:β→V)(S:CK R1):CK R1 where
 S:=λ g args σ=>bif Nat.beq g f&&σ.isEmpty then zc (dec args) λ q=>zc (sp q) λ b=>some (.ret (mk b),[]) else S.S g args σ
 run:=λ g args σ K=>bif Nat.beq g f&&σ.isEmpty then zc (dec args) λ q=>zc (sp q) λ b=>K (.ret (mk b)) [] else S.run g args σ K
 ok:=λ g a σ K=>by
  show _=zoe _ K;rw [wt,vx];cases Nat.beq g f&&σ.isEmpty
  ·exact S.ok g a σ K
  ·simp only [cond_true,vx];rfl
theorem zj{α β:Type}{f:Nat}{dec:List V→Option α}{sp:α→Option β}{mk:β→V}{S:CK R1}(hS:knows cx S.S (zh cx))
  (hf:∀ a q b,cx.dom f a=true→dec a=some q→sp q=some b→zh cx f a []=some (.ret (mk b),[])):knows cx (zt f dec sp mk S).S (zh cx):=by
 intro g args σ r hd h;simp only [zt] at h;cases hg:(Nat.beq g f&&σ.isEmpty) <;> rw [hg] at h
 ·exact hS g args σ r hd h
 ·rw [ph] at hg;obtain rfl:=pg hg.1;obtain rfl:=List.isEmpty_iff.1 hg.2;simp only [cond_true] at h;obtain ⟨q,hq,h⟩:=zd h;obtain ⟨b,hb,h⟩:=zd h;cases h;exact hf args q b hd hq hb
def K13:CK R1:=more 63 z4x z02 z6o (CK.plain zn)
theorem z2e:knows cx K13.S (zh cx):=we zm z9a
def z8y(s:List UInt8):V:=.tup [.d (.sl 3 (vd s)),.d (.int .i64 (zub s)),.d (.int .i64 (zda s))]
def mkB(b:Bool):V:=.d (.bool b)
def mkI(i:Int):V:=.d (.int .i64 i)
def mkS(s:List UInt8):V:=.d (.str s)
def za5:List V→Option (List UInt8) | [.d (.str s)]=>some s | _=>none
def K73:CK R1:=zt 166 za5 some z8y (CK.plain zn)
theorem vm{a:List V}{s}(h:za5 a=some s):a=[.d (.str s)]:=by
 unfold za5 at h; split at h <;> cases h; rfl
theorem z12:knows cx K73.S (zh cx):=zj zm λ a q b hd h hb=>by
 cases hb;obtain rfl:=vm h;exact ye8 q (pc hd)
theorem g36(n:Nat)(s:List UInt8) :
    zl cx K13 n 126 [.d (.str s)] [] =
  zb (decide (s.length≤big))
    (bif decide (zda s=0) then
      bif decide ((↑(vd s).length:Int)=(2:Int)) then
        zb (decide ((0:Int)<(↑(vd s).length:Int)))
          (za (vd s) (0:Int).toNat λ y=>
            za y.cells 0 λ c=>
              match c with
              | D.int k' n=>
                bif decide (k'=IntKind.i64) then
                  bif decide (n=(1:Int)) then
                    zb (decide ((0:Int)<(↑(vd s).length:Int)))
                      (za (vd s) (0:Int).toNat λ y=>
                        za y.cells 1 λ c=>
                          match c with
                          | D.str s_1=>some (Out.ret (V.d (D.bool (decide (s_1=s)))),[])
                          | x=>none)
                  else some (Out.ret (V.d (D.bool false)),[])
                else none
              | x=>none)
      else some (Out.ret (V.d (D.bool false)),[])
    else
      bif decide (zda s=(0:Int)) then some (Out.ret (V.d (D.bool false)),[])
      else some (Out.ret (V.d (D.bool false)),[])):=by kernel_rfl
theorem g41(n:Nat)(s:List UInt8) :
    zl cx K73 n 133 [.d (.str s)] [] =
  zb (decide (s.length≤big))
    (bif decide (zda s=(0:Int)) then
      bif decide ((↑(vd s).length:Int)=(2:Int)) then
        zb (decide ((0:Int)<(↑(vd s).length:Int)))
          (za (vd s) (0:Int).toNat λ y=>
            za y.cells 0 λ c=>
              match c with
              | D.int k' n=>
                bif decide (k'=IntKind.i64) then
                  bif decide (n=(1:Int)) then
                    zb (decide ((0:Int)<(↑(vd s).length:Int)))
                      (za (vd s) (0:Int).toNat λ y=>
                        za y.cells 1 λ c=>
                          match c with
                          | D.str s_1=>some (Out.ret (V.d (D.bool (decide (s_1=s)))),[])
                          | x=>none)
                  else some (Out.ret (V.d (D.bool false)),[])
                else none
              | x=>none)
      else some (Out.ret (V.d (D.bool false)),[])
    else some (Out.ret (V.d (D.bool false)),[])):=by kernel_rfl
def z1t(s:List UInt8):D→Bool | .agg [.int .i64 k,.str t,.int .i64 _]=>decide (k=1)&&decide (t=s) | _=>false
def Sp.named(s:List UInt8):Bool:=decide (zda s=0)&&(match vd s with | [x,_]=>z1t s x | _=>false)
theorem zy3{s:List UInt8}(h:zda s=0)(h2:(vd s).length=2):∃ k t a y,vd s=[zi5 k t a,y]:=by
 rcases zln s with ⟨_,_,l,hl,hc⟩ | ⟨h1,_⟩
 ·have e:vd s=l:=by unfold vd; rw [hl]
  rw [e] at h2 ⊢;cases hc with
  | fin _ _=>simp at h2
  | tok _ _ _ _ _ h=>
   cases h with
   | fin _ _=>exact ⟨_,_,_,_,rfl⟩
   | tok _ _ _ _ _ h=>have:=h.ne; simp only [List.length_cons] at h2; omega
 ·exact absurd h h1
theorem zu7{s:List UInt8}(h2:(vd s).length ≠ 2):Sp.named s=false:=by
 unfold Sp.named;split
 ·rename_i x y h; rw [h] at h2; simp at h2
 ·simp
theorem z3t(s:List UInt8)(hs:s.length≤big):zh cx 126 [.d (.str s)] []=some (.ret (.d (.bool (Sp.named s))),[]):=by
 refine zk z2e (N:=0) ?_;rw [g36,pa hs];by_cases h:zda s=0
 ·rw [pa h];by_cases h2:(vd s).length=2
  ·obtain ⟨k,t,a,y,hl⟩:=zy3 h h2;have e:Sp.named s=(decide (k=1)&&decide (t=s)):=by unfold Sp.named; rw [h,hl]; rfl
   rw [e,hl];show (bif decide (k=1) then _ else _)=_;cases decide (k=1) <;> rfl
  ·rw [zu7 h2,pb (p:=((vd s).length:Int)=2) (by omega)]
   rfl
 ·have e:Sp.named s=false:=by unfold Sp.named; rw [pb h]; rfl
  rw [pb h,e];rfl
theorem z7v(s:List UInt8)(hs:s.length≤big):zh cx 133 [.d (.str s)] []=some (.ret (.d (.bool (Sp.named s))),[]):=by
 refine zk z12 (N:=0) ?_;rw [g41,pa hs];by_cases h:zda s=0
 ·rw [pa h];by_cases h2:(vd s).length=2
  ·obtain ⟨k,t,a,y,hl⟩:=zy3 h h2;have e:Sp.named s=(decide (k=1)&&decide (t=s)):=by unfold Sp.named; rw [h,hl]; rfl
   rw [e,hl];show (bif decide (k=1) then _ else _)=_;cases decide (k=1) <;> rfl
  ·rw [zu7 h2,pb (p:=((vd s).length:Int)=2) (by omega)]
   rfl
 ·have e:Sp.named s=false:=by unfold Sp.named; rw [pb h]; rfl
  rw [pb h,e];rfl
def K1:CK R1:=zt 126 za5 (λ s=>some (Sp.named s)) mkB (zt 170 za5 (λ s=>some (!Sp.named s)) mkB (zt 133 za5 (λ s=>some (Sp.named s)) mkB (CK.plain zn)))
theorem g85(n:Nat)(s:List UInt8) :
    zl cx (zt 126 za5 (λ s=>some (Sp.named s)) mkB (CK.plain zn)) n 170 [.d (.str s)] [] =
  zb (decide (s.length≤big)) (some (Out.ret (V.d (D.bool (!Sp.named s))),[])):=by kernel_rfl
theorem zgc:knows cx K1.S (zh cx):=by
 have h0:knows cx (CK.plain (R:=R1) zn).S (zh cx):=zm;have h41:=zj (f:=133) (dec:=za5) (sp:=λ s=>some (Sp.named s)) (mk:=mkB) h0 λ a q b hd h hb=>by
  cases hb; obtain rfl:=vm h; exact z7v q (pc hd)
 have h36:=zj (f:=126) (dec:=za5) (sp:=λ s=>some (Sp.named s)) (mk:=mkB) h0 λ a q b hd h hb=>by
  cases hb; obtain rfl:=vm h; exact z3t q (pc hd)
 have h85:=zj (f:=170) (dec:=za5) (sp:=λ s=>some (!Sp.named s)) (mk:=mkB) h41 λ a q b hd h hb=>by
  cases hb; obtain rfl:=vm h;refine zk h36 (N:=0) ?_;rw [g85,pa (pc hd)];rfl
 exact zj h85 λ a q b hd h hb=>by
  cases hb; obtain rfl:=vm h; exact z3t q (pc hd)
def ym{α:Type}(p:α→Bool):List α→Nat→Option Nat
 | [],_=>none
 | x::r,j=>bif p x then some j else ym p r (j+1)
def y8{α:Type}(p:α→Bool)(l:List α):Int:=match ym p l 0 with | some j=>(j:Int) | none=>-1
theorem zbc{α:Type}{p:α→Bool}:∀ (l:List α) (j:Nat),(ym p l j).isSome=l.any p
 | [],_=>rfl
 | x::r,j=>by
  simp only [ym,List.any_cons];cases p x
  ·simp only [cond_false,Bool.false_or]; exact zbc r (j+1)
  ·rfl
theorem zgy{α:Type}{p:α→Bool}(l:List α):decide ((0:Int)≤y8 p l)=l.any p:=by
 rw [←zbc l 0];unfold y8;cases ym p l 0 with
 | none=>rfl
 | some j=>exact pa (Int.natCast_nonneg j)
theorem z6{j n:Nat}(h:j<n):decide ((j:Int)<(n:Int))=true:=pa (by omega)
theorem yj{n:Nat}:decide ((n:Int)<(n:Int))=false:=pb (by omega)
theorem yy{j:Nat}:decide ((0:Int)≤(j:Int))=true:=pa (by omega)
theorem zbu{α:Type}{l r:List α}{x:α}{j:Nat}(h:l.drop j=x::r):j<l.length∧l[j]?=some x∧l.drop (j+1)=r:=by
 have h1:j<l.length:=by
  by_cases h':j<l.length
  ·exact h'
  ·rw [List.drop_eq_nil_of_le (by omega)] at h; cases h
 rw [List.drop_eq_getElem_cons h1] at h;injection h with h2 h3;exact ⟨h1,by rw [pr h1,h2],h3⟩
theorem xq{j n:Nat}(h:j<n)(hn:n<4294967296):IntKind.i64.wrap ((j:Int)+1)=((j+1:Nat):Int):=by
 rw [IntWalk.i64_in _ (by omega)]; rfl
theorem zef{R α:Type}(L:Nat→Int→Option R)(xs:List α)(p:α→Bool)(B:Nat→Option R)(E:Option R)(hs:xs.length<4294967296)
  (H:∀ (k j:Nat) x,j<xs.length→xs[j]?=some x→L (k+1) j=bif p x then B j else L k (IntKind.i64.wrap ((j:Int)+1))) (HE:∀ k,L (k+1) xs.length=E) :
  ∀ (r:List α) (j k:Nat),xs.drop j=r→j≤xs.length→r.length<k→L k j=match ym p r j with | some i=>B i | none=>E
 | [],j,k,hd,hj,hk=>by
  obtain ⟨k,rfl⟩:∃ i,k=i+1:=⟨k - 1,by omega⟩
  have:xs.length≤j:=by simpa using hd
  obtain rfl:j=xs.length:=by omega
  exact HE k
 | x::r,j,k,hd,hj,hk=>by
  obtain ⟨k,rfl⟩:∃ i,k=i+1:=⟨k - 1,by omega⟩
  obtain ⟨h1,h2,h3⟩:=zbu hd;rw [H k j x h1 h2,ym];cases p x
  ·rw [cond_false,cond_false,xq h1 hs];exact zef L xs p B E hs H HE r (j+1) k h3 h1 (by simp at hk; omega)
  ·rfl
theorem vr{R α:Type}(L:Nat→Int→Option R)(xs:List α)(p:α→Bool)(B:Nat→Option R)(E:Option R)(hs:xs.length<4294967296)
  (H:∀ (k j:Nat) x,j<xs.length→xs[j]?=some x→L (k+1) j=bif p x then B j else L k (IntKind.i64.wrap ((j:Int)+1))) (HE:∀ k,L (k+1) xs.length=E) {k:Nat} (hk:xs.length<k) :
  L k 0=match ym p xs 0 with | some i=>B i | none=>E:=zef L xs p B E hs H HE xs 0 k rfl (Nat.zero_le _) hk
theorem yh{α:Type}{l:List α}(h:yd l=true):l.length<4294967296:=pc h
theorem ql{s:List UInt8}(h:yd s=true):decide (s.length≤big)=true:=pa (by have:=yh h; unfold big; omega)
theorem z5d{α:Type}{p:α→Bool}{l:List α}(h:l.all p=true){j:Nat}{x:α}(hx:l[j]?=some x):p x=true:=List.all_eq_true.1 h x (po hx)
theorem yfo(n:Nat)(l:List (List UInt8)) :
    zl cx K1 n 106 [.d (.sl 1 (l.map .str)),.func 170 []] [] =
  LP cx K1 n 106 0 2 n
    [(0,V.d (D.sl 1 (List.map D.str l))),(1,V.func 170 []),
      (7,V.d (D.int .i64 (↑(List.map D.str l).length:Int))),(8,V.d (D.int .i64 (0:Int)))]
    [] (AK cx K1 n 106 0 2 (EK cx 106 0)):=by kernel_rfl
theorem yct(n k:Nat)(l:List (List UInt8))(i:Int) :
    LP cx K1 n 106 0 2 (k+1) [(0,V.d (D.sl 1 (List.map D.str l))),(1,V.func 170 []),(7,V.d (D.int .i64 (l.length:Int))),(8,V.d (D.int .i64 i))] [] (AK cx K1 n 106 0 2 (EK cx 106 0)) =
  bif decide (i<(↑l.length:Int)) then
    zb (decide (0≤i)&&decide (i<(↑(List.map D.str l).length:Int)))
      (za (List.map D.str l) i.toNat λ y=>
        za y.cells 0 λ c=>
          match c with
          | D.str s=>
            zb (decide (s.length≤big))
              (bif !Sp.named s then some (Out.ret (V.d (D.int .i64 i)),[])
              else
                LP cx K1 n 106 0 2 k
                  [(0,V.d (D.sl 1 (List.map D.str l))),(1,V.func 170 []),
                    (7,V.d (D.int .i64 (↑l.length:Int))),
                    (8,V.d (D.int .i64 (IntKind.i64.wrap (i+(1:Int)))))]
                  [] (AK cx K1 n 106 0 2 (EK cx 106 0)))
          | x=>none)
  else some (Out.ret (V.d (D.int .i64 (Int.negSucc 0))),[]):=by kernel_rfl
theorem g75(n:Nat)(l:List (List UInt8)) :
    zl cx K1 n 96 [.d (.sl 1 (l.map .str))] [] =
  LP cx K1 n 96 0 2 n [(0,V.d (D.sl 1 (List.map D.str l))),(3,V.d (D.int .i64 (0:Int)))] []
    (AK cx K1 n 96 0 2 (EK cx 96 0)):=by kernel_rfl
theorem l75(n k:Nat)(l:List (List UInt8))(i:Int) :
    LP cx K1 n 96 0 2 (k+1) [(0,V.d (D.sl 1 (List.map D.str l))),(3,V.d (D.int .i64 i))] [] (AK cx K1 n 96 0 2 (EK cx 96 0)) =
  bif decide (i<(↑(List.map D.str l).length:Int)) then
    zb (decide (0≤i)&&decide (i<(↑(List.map D.str l).length:Int)))
      (za (List.map D.str l) i.toNat λ y=>
        za y.cells 0 λ c=>
          match c with
          | D.str s=>
            zb (decide (s.length≤big))
              (bif !Sp.named s then some (Out.ret (V.d (D.bool false)),[])
              else
                LP cx K1 n 96 0 2 k
                  [(0,V.d (D.sl 1 (List.map D.str l))),
                    (3,V.d (D.int .i64 (IntKind.i64.wrap (i+(1:Int)))))]
                  [] (AK cx K1 n 96 0 2 (EK cx 96 0)))
          | x=>none)
  else some (Out.ret (V.d (D.bool true)),[]):=by kernel_rfl
theorem z9d(l:List (List UInt8))(hl:yd l=true)(ha:l.all yd=true):zh cx 106 [.d (.sl 1 (l.map .str)),.func 170 []] []=some (.ret (.d (.int .i64 (y8 (λ s=>!Sp.named s) l))),[]):=by
 refine zk zgc (N:=l.length+1) ?_;rw [yfo]
 have h:=zef (λ k i=>LP cx K1 (l.length+1) 106 0 2 k [(0,V.d (D.sl 1 (List.map D.str l))),(1,V.func 170 []),(7,V.d (D.int .i64 (l.length:Int))),(8,V.d (D.int .i64 i))] [] (AK cx K1 (l.length+1) 106 0 2 (EK cx 106 0)))
  l (λ s=>!Sp.named s) (λ j=>some (Out.ret (V.d (D.int .i64 j)),[])) (some (Out.ret (V.d (D.int .i64 (Int.negSucc 0))),[])) (yh hl)
  (λ k j x hj hx=>by
   rw [yct,pf,z6 hj,yy,xx,pm,hx];simp only [cond_true,zb,zc,Bool.and_self];show zb (decide (x.length≤big)) _=_;rw [ql (z5d ha hx)];rfl) (λ k=>by rw [yct,yj,cond_false]) l 0 (l.length+1) rfl (Nat.zero_le _) (by omega)
 rw [pf];refine h.trans ?_;unfold y8;cases ym (λ s=>!Sp.named s) l 0 <;> rfl
def zgb:D→Option (List (List UInt8)) | .sl 1 l=>(match strs l with | some m=>bif yd m&&m.all yd then some m else none | none=>none) | _=>none
def vp:List V→Option D | [.d x]=>some x | _=>none
def zhr(c:Nat):List V→Option D | [.d x,.func g []]=>bif Nat.beq g c then some x else none | _=>none
theorem xy{a:List V}{x:D}(h:vp a=some x):a=[.d x]:=by
 unfold vp at h;split at h
 ·cases h; rfl
 ·cases h
theorem zc8{a:List V}{c:Nat}{x:D}(h:zhr c a=some x):a=[.d x,.func c []]:=by
 unfold zhr at h;split at h
 ·rename_i x g;cases hc:Nat.beq g c <;> rw [hc] at h
  ·cases h
  ·obtain rfl:=pg hc;cases h; rfl
 ·cases h
theorem zkq{x:D}{m}(h:zgb x=some m):x=.sl 1 (m.map .str)∧yd m=true∧m.all yd=true:=by
 unfold zgb at h;split at h
 ·split at h
  ·rename_i m' hm;cases hc:(yd m'&&m'.all yd) <;> rw [hc] at h
   ·cases h
   ·cases h;rw [ph] at hc;exact ⟨by rw [zim hm],hc⟩
  ·cases h
 ·cases h
theorem zu4{m:List (List UInt8)}(h1:yd m=true)(h2:m.all yd=true):zgb (.sl 1 (m.map .str))=some m:=by
 unfold zgb;simp only [zum,h1,h2];rfl
def K2:CK R1:=zt 106 (zhr 170) zgb (λ l=>mkI (y8 (λ s=>!Sp.named s) l)) K1
theorem zwq:knows cx K2.S (zh cx):=zj zgc λ a q b hd h hb=>by
 obtain rfl:=zc8 h;obtain ⟨rfl,h1,h2⟩:=zkq hb;exact z9d b h1 h2
theorem ybn(l:List (List UInt8))(hl:yd l=true)(ha:l.all yd=true):zh cx 96 [.d (.sl 1 (l.map .str))] []=some (.ret (.d (.bool (l.all Sp.named))),[]):=by
 refine zk zgc (N:=l.length+1) ?_;rw [g75]
 have h:=zef (λ k i=>LP cx K1 (l.length+1) 96 0 2 k [(0,V.d (D.sl 1 (List.map D.str l))),(3,V.d (D.int .i64 i))] [] (AK cx K1 (l.length+1) 96 0 2 (EK cx 96 0)))
  l (λ s=>!Sp.named s) (λ j=>some (Out.ret (V.d (D.bool false)),[])) (some (Out.ret (V.d (D.bool true)),[])) (yh hl)
  (λ k j x hj hx=>by
   rw [l75,pf,z6 hj,yy,xx,pm,hx];simp only [cond_true,zb,zc,Bool.and_self];show zb (decide (x.length≤big)) _=_;rw [ql (z5d ha hx)];rfl) (λ k=>by rw [l75,pf,yj,cond_false]) l 0 (l.length+1) rfl (Nat.zero_le _) (by omega)
 refine h.trans ?_;have e:l.all Sp.named = !(l.any λ s=>!Sp.named s):=by rw [List.not_any_eq_all_not]; simp
 rw [e,←zbc l 0];cases ym (λ s=>!Sp.named s) l 0 <;> rfl
open Classical in
def Sp.toC(x:D):Option T:=if h:∃ t:T,x=t.d∧t.ok=true then some h.choose else none
theorem xz{x:D}{t:T}(h:Sp.toC x=some t):x=t.d∧t.ok=true:=by
 unfold Sp.toC at h;split at h
 ·rename_i hex; cases h; exact hex.choose_spec
 ·cases h
theorem ydh{t u:T}(ht:t.ok=true)(hu:u.ok=true)(h:t.d=u.d):t=u:=by
 have h1:=zdu (n:=max t.depth u.depth) (t:=t) (by omega) ht
 have h2:=zdu (n:=max t.depth u.depth) (t:=u) (by omega) hu
 rw [h,h2] at h1;exact (Option.some.inj h1).symm
theorem zhl{t:T}(h:t.ok=true):Sp.toC t.d=some t:=by
 have hex:∃ u:T,t.d=u.d∧u.ok=true:=⟨t,rfl,h⟩;unfold Sp.toC;rw [dif_pos hex];obtain ⟨h1,h2⟩:=hex.choose_spec;rw [←ydh h h2 h1]
def Sp.plain:T×Int×Int×Bool→Bool
 | (.mk _ nm kids nms _,a,b,w)=>decide ((kids.length:Int)=a)&&decide ((nms.length:Int)=b)&&(w||decide (nm=[]))&&nms.all Sp.named
def Sp.bit(s:List UInt8):Bool:=decide (s=[48])||decide (s=[49])
def Sp.form:T→Bool
 | .mk k nm [] nms _=>decide (nms=[])&&((decide (k=1)&&Sp.named nm)||(decide (k=17)&&Sp.bit nm))
 | .mk k nm [a] nms _=>decide (k=16)&&decide (nm=[])&&decide (nms=[])&&Sp.form a
 | .mk k nm [a,b] nms _=>(decide (k=14)||decide (k=15))&&decide (nm=[])&&decide (nms=[])&&Sp.form a&&Sp.form b
 | _=>false
def qq:T→Bool
 | .mk k nm [] [x] _=>decide (k=13)&&Sp.named nm&&Sp.bit x
 | _=>false
def qp:T→Bool
 | .mk k nm kids nms _=>decide (k=12)&&decide (nm=[])&&decide (nms=[])&&kids.all qq
mutual
def Sp.right:T→Bool
 | .mk k nm [] nms _=>decide (nms=[])&&((decide (k=1)&&Sp.named nm)||(decide (k=10)&&decide (nm=[])))
 | .mk k nm [a] nms _=>decide (nm=[])&&(((decide (k=2)||decide (k=3))&&!decide (nms=[])&&nms.all Sp.named&&Sp.right a)||(decide (k=10)&&decide (nms=[])&&Sp.elem a))
 | .mk k nm [a,b] nms _=>decide (nm=[])&&(((decide (k=4)||decide (k=5))&&decide (nms.length<2)&&nms.all Sp.named&&Sp.right a&&Sp.right b) ||
   ((decide (k=6)||decide (k=8)||decide (k=9))&&decide (nms=[])&&Sp.right a&&Sp.right b)||(decide (k=7)&&decide (nms=[])&&Sp.right a&&Sp.form b)||(decide (k=10)&&decide (nms=[])&&Sp.elem a&&Sp.elem b))
 | .mk k nm (a::b::c::l) nms _=>decide (nm=[])&&decide (k=10)&&decide (nms=[])&&(Sp.elem a&&Sp.elem b&&Sp.elem c&&Sp.elems l)
def Sp.elem:T→Bool
 | .mk k nm [f] nms _=>decide (k=11)&&decide (nm=[])&&decide (nms=[])&&qp f
 | .mk k nm [f,u] nms _=>decide (k=11)&&decide (nm=[])&&decide (nms=[])&&qp f&&Sp.right u
 | _=>false
def Sp.elems:List T→Bool
 | []=>true
 | t::l=>Sp.elem t&&Sp.elems l
end
theorem zf6:∀ l:List T,Sp.elems l=l.all Sp.elem
 | []=>rfl
 | t::l=>by rw [Sp.elems,zf6 l,List.all_cons]
def z4m:List V→Option (D×Int×Int×Bool)
 | [.d x,.d (.int .i64 a),.d (.int .i64 b),.d (.bool w)]=>some (x,a,b,w)
 | _=>none
theorem zx1{a:List V}{q}(h:z4m a=some q):a=[.d q.1,.d (.int .i64 q.2.1),.d (.int .i64 q.2.2.1),.d (.bool q.2.2.2)]:=by
 unfold z4m at h;split at h
 ·cases h; rfl
 ·cases h
def K3:CK R1:=zt 78 (zhr 170) zgb (λ l=>mkB (l.any (λ s=>!Sp.named s))) K2
def K4:CK R1:=zt 136 z4m (λ q=>zc (Sp.toC q.1) λ t=>some (t,q.2)) (λ q=>mkB (Sp.plain q)) K3
def qa(f:D→Option T):D→Option (List T) | .sl 5 l=>(match toL f l with | some m=>bif yd m then some m else none | none=>none) | _=>none
theorem ze4{f:D→Option T}{x:D}{m:List T}(h:qa f x=some m):∃ l,x=.sl 5 l∧toL f l=some m∧yd m=true:=by
 unfold qa at h;split at h
 ·split at h
  ·rename_i l q hq;cases hs:yd q <;> rw [hs] at h
   ·cases h
   ·cases h; exact ⟨_,rfl,hq,hs⟩
  ·cases h
 ·cases h
theorem zgd{f:D→Option T}(hf:∀ x t,f x=some t→x=t.d):∀ {l:List D} {m:List T},toL f l=some m→l=T.ds m∧∀ t∈m,f t.d=some t
 | [],m,h=>by cases h; exact ⟨rfl,λ t ht=>by cases ht⟩
 | x::r,m,h=>by
  unfold toL at h;split at h
  ·rename_i t l ht hl;cases h;obtain ⟨h1,h2⟩:=zgd hf hl;have hx:=hf x t ht;refine ⟨by rw [hx,h1]; rfl,λ u hu=>?_⟩
   cases hu with
   | head=>rw [←hx]; exact ht
   | tail _ hu=>exact h2 u hu
  ·cases h
theorem znx{f:D→Option T}:∀ {m:List T},(∀ t∈m,f t.d=some t)→yd m=true→qa f (.sl 5 (T.ds m))=some m:=by
 intro m h hs;have key:∀ l:List T,(∀ t∈l,f t.d=some t)→toL f (T.ds l)=some l:=by
  intro l
  induction l with
  | nil=>intro _; rfl
  | cons t l ih=>
   intro h;simp only [T.ds,toL,h t (pn ..),ih λ u hu=>h u (pp _ hu)]
 simp only [qa,key m h,hs];rfl
theorem z66{l:List (List UInt8)}:(!l.any λ s=>!Sp.named s)=l.all Sp.named:=by rw [List.not_any_eq_all_not]; simp
theorem wu{k:Int}{nm:List UInt8}{kids:List T}{nms:List (List UInt8)}{pl:Int}(h:(T.mk k nm kids nms pl).ok=true):yd nm=true∧yd kids=true∧yd nms=true∧nms.all yd=true∧T.oks kids=true:=by
 simp only [T.ok,ph] at h;exact ⟨h.1.1.1.1,h.1.1.1.2,h.1.1.2,h.1.2,h.2⟩
theorem vo{k:Int}{nm:List UInt8}{kids:List T}{nms:List (List UInt8)}{pl:Int}{m:Nat}(h:(T.mk k nm kids nms pl).depth≤m+1):T.depths kids≤m:=by
 simp only [T.depth] at h; omega
theorem zad{t:T}{l:List T}{m:Nat}(hd:T.depths l≤m)(ho:T.oks l=true)(h:t∈l):zg m t.d=some t:=
 zdu (Nat.le_trans (zf8 h) hd) (wn ho h)
theorem zdf{t:T}{l:List T}(ho:T.oks l=true)(h:t∈l):Sp.toC t.d=some t:=zhl (wn ho h)
theorem g84(n:Nat)(l:List (List UInt8)):zl cx K2 n 78 [.d (.sl 1 (l.map .str)),.func 170 []] []=zc (zgb (D.sl 1 (List.map D.str l))) λ b=>some (Out.ret (V.d (D.bool (decide ((0:Int)≤y8 (λ s=>!Sp.named s) b)))),[]):=by kernel_rfl
theorem g61(n:Nat)(k:Int)(nm:List UInt8)(kids:List T)(nms:List (List UInt8))(pl a b:Int)(w:Bool):zl cx K3 n 136 [.d (.agg [.int .i64 k,.str nm,.sl 5 (T.ds kids),.sl 1 (nms.map .str),.int .i64 pl]),.d (.int .i64 a),.d (.int .i64 b),.d (.bool w)] []=bif !decide ((↑(T.ds kids).length:Int)=a) then some (Out.ret (V.d (D.bool false)),[]) else bif !decide ((↑(List.map D.str nms).length:Int)=b) then some (Out.ret (V.d (D.bool false)),[]) else bif !w then bif !decide (nm=[]) then some (Out.ret (V.d (D.bool false)),[]) else zc (zgb (D.sl 1 (List.map D.str nms))) λ b=>some (Out.ret (V.d (D.bool !b.any λ s=>!Sp.named s)),[]) else zc (zgb (D.sl 1 (List.map D.str nms))) λ b=>some (Out.ret (V.d (D.bool !b.any λ s=>!Sp.named s)),[]):=by kernel_rfl
theorem ybj(l:List (List UInt8))(h1:yd l=true)(h2:l.all yd=true):zh cx 78 [.d (.sl 1 (l.map .str)),.func 170 []] []=some (.ret (mkB (l.any λ s=>!Sp.named s)),[]):=by
 refine zk zwq (N:=0) ?_;rw [g84,zu4 h1 h2,←zgy];rfl
theorem zwp:knows cx K3.S (zh cx):=zj zwq λ a q b hd h hb=>by
 obtain rfl:=zc8 h;obtain ⟨rfl,h1,h2⟩:=zkq hb;exact ybj b h1 h2
theorem ybu(t:T)(a b:Int)(w:Bool)(h:t.ok=true):zh cx 136 [.d t.d,.d (.int .i64 a),.d (.int .i64 b),.d (.bool w)] []=some (.ret (mkB (Sp.plain (t,a,b,w))),[]):=by
 obtain ⟨k,nm,kids,nms,pl⟩:=t;obtain ⟨h1,h2,h3,h4,h5⟩:=wu h;refine zk zwp (N:=0) ?_;refine (g61 0 k nm kids nms pl a b w).trans ?_;rw [zu4 h3 h4,zo,pf];simp only [zc,z66,Sp.plain,mkB];cases decide ((kids.length:Int)=a) <;> cases decide ((nms.length:Int)=b) <;> cases w <;> cases decide (nm=[]) <;> rfl
theorem zqe:knows cx K4.S (zh cx):=zj zwp λ a q b hd h hb=>by
 obtain rfl:=zx1 h;obtain ⟨t,ht,hb⟩:=zd hb;cases hb;obtain ⟨he,h1⟩:=xz ht;rw [he];exact ybu t _ _ _ h1
theorem g88(n:Nat)(k:Int)(nm:List UInt8)(kids:List T)(nms:List (List UInt8))(pl:Int):zl cx K4 n 172 [.d (.agg [.int .i64 k,.str nm,.sl 5 (T.ds kids),.sl 1 (nms.map .str),.int .i64 pl])] []=bif decide (k=(13:Int)) then bif decide ((↑(T.ds kids).length:Int)=(0:Int)) then zb (decide (nm.length≤big)) (bif Sp.named nm then bif decide ((↑(List.map D.str nms).length:Int)=(1:Int)) then zb (decide ((0:Int)<(↑(List.map D.str nms).length:Int))) (za (List.map D.str nms) (0:Int).toNat λ y=>za y.cells 0 λ c=>match c with
 | D.str s=>bif decide (s=[48]) then some (Out.ret (V.d (D.bool true)),[]) else zb (decide ((0:Int)<(↑(List.map D.str nms).length:Int))) (za (List.map D.str nms) (0:Int).toNat λ y=>za y.cells 0 λ c=>match c with
  | D.str s=>some (Out.ret (V.d (D.bool (decide (s=[49])))),[])
  | x=>none)
 | x=>none) else some (Out.ret (V.d (D.bool false)),[]) else some (Out.ret (V.d (D.bool false)),[])) else some (Out.ret (V.d (D.bool false)),[]) else some (Out.ret (V.d (D.bool false)),[]):=by kernel_rfl
theorem g62(n m:Nat)(k:Int)(nm:List UInt8)(kids:List T)(nms:List (List UInt8))(pl:Int):zl cx (zt 137 vp (zg m) (λ t=>mkB (Sp.form t)) K4) n 137 [.d (.agg [.int .i64 k,.str nm,.sl 5 (T.ds kids),.sl 1 (nms.map .str),.int .i64 pl])] []=bif decide (k=(1:Int)) then zc (zc (Sp.toC (D.agg [D.int .i64 k,D.str nm,D.sl 5 (T.ds kids),D.sl 1 (List.map D.str nms),D.int .i64 pl],(0:Int),(0:Int),true).fst) λ t=>some (t,(0:Int),(0:Int),true)) λ b=>bif Sp.plain b then zb (decide (nm.length≤big)) (some (Out.ret (V.d (D.bool (Sp.named nm))),[])) else some (Out.ret (V.d (D.bool false)),[]) else bif decide (k=(17:Int)) then zc (zc (Sp.toC (D.agg [D.int .i64 k,D.str nm,D.sl 5 (T.ds kids),D.sl 1 (List.map D.str nms),D.int .i64 pl],(0:Int),(0:Int),true).fst) λ t=>some (t,(0:Int),(0:Int),true)) λ b=>bif Sp.plain b then bif decide (nm=[48]) then some (Out.ret (V.d (D.bool true)),[]) else some (Out.ret (V.d (D.bool (decide (nm=[49])))),[]) else some (Out.ret (V.d (D.bool false)),[]) else bif decide (k=(16:Int)) then zc (zc (Sp.toC (D.agg [D.int .i64 k,D.str nm,D.sl 5 (T.ds kids),D.sl 1 (List.map D.str nms),D.int .i64 pl],(1:Int),(0:Int),false).fst) λ t=>some (t,(1:Int),(0:Int),false)) λ b=>bif Sp.plain b then zb (decide ((0:Int)<(↑(T.ds kids).length:Int))) (za (T.ds kids) (0:Int).toNat λ y=>za y.cells 0 λ c=>za y.cells 1 λ c_1=>za y.cells 2 λ c_2=>za y.cells 3 λ c_3=>za y.cells 4 λ c_4=>zc (zg m (D.agg [c,c_1,c_2,c_3,c_4])) λ b=>some (Out.ret (V.d (D.bool (Sp.form b))),[])) else some (Out.ret (V.d (D.bool false)),[]) else bif decide (k=(15:Int)) then bif decide (k=(15:Int)) then zc (zc (Sp.toC (D.agg [D.int .i64 k,D.str nm,D.sl 5 (T.ds kids),D.sl 1 (List.map D.str nms),D.int .i64 pl],(2:Int),(0:Int),false).fst) λ t=>some (t,(2:Int),(0:Int),false)) λ b=>bif Sp.plain b then zb (decide ((0:Int)<(↑(T.ds kids).length:Int))) (za (T.ds kids) (0:Int).toNat λ y=>za y.cells 0 λ c=>za y.cells 1 λ c_1=>za y.cells 2 λ c_2=>za y.cells 3 λ c_3=>za y.cells 4 λ c_4=>zc (zg m (D.agg [c,c_1,c_2,c_3,c_4])) λ b=>bif Sp.form b then zb (decide ((1:Int)<(↑(T.ds kids).length:Int))) (za (T.ds kids) (1:Int).toNat λ y=>za y.cells 0 λ c=>za y.cells 1 λ c_5=>za y.cells 2 λ c_6=>za y.cells 3 λ c_7=>za y.cells 4 λ c_8=>zc (zg m (D.agg [c,c_5,c_6,c_7,c_8])) λ b=>some (Out.ret (V.d (D.bool (Sp.form b))),[])) else some (Out.ret (V.d (D.bool false)),[])) else some (Out.ret (V.d (D.bool false)),[]) else some (Out.ret (V.d (D.bool false)),[]) else bif decide (k=(14:Int)) then zc (zc (Sp.toC (D.agg [D.int .i64 k,D.str nm,D.sl 5 (T.ds kids),D.sl 1 (List.map D.str nms),D.int .i64 pl],(2:Int),(0:Int),false).fst) λ t=>some (t,(2:Int),(0:Int),false)) λ b=>bif Sp.plain b then zb (decide ((0:Int)<(↑(T.ds kids).length:Int))) (za (T.ds kids) (0:Int).toNat λ y=>za y.cells 0 λ c=>za y.cells 1 λ c_1=>za y.cells 2 λ c_2=>za y.cells 3 λ c_3=>za y.cells 4 λ c_4=>zc (zg m (D.agg [c,c_1,c_2,c_3,c_4])) λ b=>bif Sp.form b then zb (decide ((1:Int)<(↑(T.ds kids).length:Int))) (za (T.ds kids) (1:Int).toNat λ y=>za y.cells 0 λ c=>za y.cells 1 λ c_5=>za y.cells 2 λ c_6=>za y.cells 3 λ c_7=>za y.cells 4 λ c_8=>zc (zg m (D.agg [c,c_5,c_6,c_7,c_8])) λ b=>some (Out.ret (V.d (D.bool (Sp.form b))),[])) else some (Out.ret (V.d (D.bool false)),[])) else some (Out.ret (V.d (D.bool false)),[]) else some (Out.ret (V.d (D.bool false)),[]):=by kernel_rfl
theorem z9f{α:Type}(l:List α)(n:Nat):decide ((l.length:Int)=(n:Int))=decide (l.length=n):=by
 by_cases h:l.length=n
 ·rw [pa h,pa (by omega)]
 ·rw [pb h,pb (by omega)]
theorem zot{α:Type}(l:List α):decide ((l.length:Int)=0)=decide (l.length=0):=z9f l 0
theorem zl4{α:Type}(l:List α):decide ((l.length:Int)=1)=decide (l.length=1):=z9f l 1
theorem ztl{α:Type}(l:List α):decide ((l.length:Int)=2)=decide (l.length=2):=z9f l 2
theorem zkz{α:Type}(l:List α):decide ((0:Int)<(l.length:Int))=decide (0<l.length):=by
 by_cases h:0<l.length
 ·rw [pa h,pa (by omega)]
 ·rw [pb h,pb (by omega)]
theorem zmz{α:Type}(l:List α):decide ((1:Int)<(l.length:Int))=decide (1<l.length):=by
 by_cases h:1<l.length
 ·rw [pa h,pa (by omega)]
 ·rw [pb h,pb (by omega)]
theorem zbp{c x:Bool}{σ:St}:(bif c then some (Out.ret (V.d (D.bool x)),σ) else some (Out.ret (V.d (D.bool false)),σ))=some (Out.ret (V.d (D.bool (c&&x))),σ):=by cases c <;> rfl
theorem zg8{c x:Bool}{σ:St}:(bif c then some (Out.ret (V.d (D.bool true)),σ) else some (Out.ret (V.d (D.bool x)),σ))=some (Out.ret (V.d (D.bool (c||x))),σ):=by cases c <;> rfl
theorem ybi(t:T)(h:t.ok=true):zh cx 172 [.d t.d] []=some (.ret (mkB (qq t)),[]):=by
 obtain ⟨k,nm,kids,nms,pl⟩:=t;obtain ⟨h1,h2,h3,h4,h5⟩:=wu h;refine zk zqe (N:=0) ?_;refine (g88 0 k nm kids nms pl).trans ?_;simp only [zo,pf,ql h1,zot,zl4,zkz,xx];have hk:k=13∨k ≠ 13:=by omega
 rcases hk with rfl | hk <;> rcases kids with _ | ⟨a,kids⟩ <;> rcases nms with _ | ⟨x,_ | ⟨y,nms⟩⟩ <;> simp [qq,mkB,zb,zc,Sp.bit,zbp,zg8, *]
 show (bif Sp.named nm then (bif decide (x=[48]) then _ else some (Out.ret (V.d (D.bool (decide (x=[49])))),[])) else _)=_;simp only [zg8,zbp]
theorem z7s:∀ (m:Nat) (t:T),t.depth≤m→t.ok=true→zh cx 137 [.d t.d] []=some (.ret (mkB (Sp.form t)),[])
 | 0,.mk ..,h,_=>by simp [T.depth] at h
 | m+1,.mk k nm kids nms pl,hd,ho=>by
  have hK:knows cx (zt 137 vp (zg m) (λ t=>mkB (Sp.form t)) K4).S (zh cx):=zj zqe λ a q b _ h hb=>by
   obtain rfl:=xy h;obtain ⟨rfl,h1,h2⟩:=y5 hb;exact z7s m b h1 h2
  obtain ⟨h1,h2,h3,h4,h5⟩:=wu ho;have hkd:=vo hd;refine zk hK (N:=0) ?_;refine (g62 0 m k nm kids nms pl).trans ?_;have hC:Sp.toC (D.agg [D.int .i64 k,D.str nm,D.sl 5 (T.ds kids),D.sl 1 (List.map D.str nms),D.int .i64 pl])=some (.mk k nm kids nms pl):=zhl ho;have hT:∀ t∈kids,zg m t.d=some t:=λ t h=>zad hkd h5 h;simp only [hC,zc,zo,ql h1,zb,cond_true,zz,yb,xo,wz,vc,vb,va,wj,Sp.plain,zot,zl4,ztl,zkz,zmz];clear hC hK ho hd;have hk:k=1∨k=17∨k=16∨k=15∨k=14∨(k ≠ 1∧k ≠ 17∧k ≠ 16∧k ≠ 15∧k ≠ 14):=by omega
  rcases hk with rfl | rfl | rfl | rfl | rfl | ⟨q1,q2,q3,q4,q5⟩ <;> rcases kids with _ | ⟨a,_ | ⟨b,_ | ⟨c,l⟩⟩⟩ <;> rcases nms with _ | ⟨x,nms⟩ <;> simp [Sp.form,mkB,Sp.bit,hT,zbp,zg8,Bool.and_assoc, *]
def K5:CK R1:=zt 137 vp Sp.toC (λ t=>mkB (Sp.form t)) (zt 172 vp Sp.toC (λ t=>mkB (qq t)) K4)
theorem zdq:knows cx K5.S (zh cx):=by
 have h88:=zj (f:=172) (dec:=vp) (sp:=Sp.toC) (mk:=λ t=>mkB (qq t)) zqe λ a q b hd h hb=>by
  obtain rfl:=xy h;obtain ⟨rfl,h1⟩:=xz hb;exact ybi b h1
 exact zj h88 λ a q b hd h hb=>by
  obtain rfl:=xy h;obtain ⟨rfl,h1⟩:=xz hb;exact z7s b.depth b (Nat.le_refl _) h1
theorem g87(n:Nat)(t:T):zl cx K5 n 171 [.d t.d] []=zc (Sp.toC t.d) λ b=>some (Out.ret (V.d (D.bool !qq b)),[]):=by
  cases t; kernel_rfl
def K6:CK R1:=zt 171 vp Sp.toC (λ t=>mkB (!qq t)) K5
theorem z5u:knows cx K6.S (zh cx):=zj zdq λ a q b hd h hb=>by
 obtain rfl:=xy h;obtain ⟨rfl,h1⟩:=xz hb;refine zk zdq (N:=0) ?_;rw [g87,zhl h1];rfl
theorem g86(n:Nat)(l:List T)(S:CK R1)(g:Nat):zl cx S n 45 [.d (.sl 5 (T.ds l)),.func g []] []=LP cx S n 45 0 2 n [(0,V.d (D.sl 5 (T.ds l))),(1,V.func g []),(7,V.d (D.int .i64 (↑(T.ds l).length:Int))),(8,V.d (D.int .i64 (0:Int)))] [] (AK cx S n 45 0 2 (EK cx 45 0)):=by kernel_rfl
theorem ycb(n k:Nat)(l:List T)(i:Int)(f:D→Option T)(p:T→Bool)(S:CK R1):LP cx (zt 171 vp f (λ t=>mkB (p t)) S) n 45 0 2 (k+1) [(0,V.d (D.sl 5 (T.ds l))),(1,V.func 171 []),(7,V.d (D.int .i64 (l.length:Int))),(8,V.d (D.int .i64 i))] [] (AK cx (zt 171 vp f (λ t=>mkB (p t)) S) n 45 0 2 (EK cx 45 0))=bif decide (i<(↑l.length:Int)) then zb (decide (0≤i)&&decide (i<(↑(T.ds l).length:Int))) (za (T.ds l) i.toNat λ y=>za y.cells 0 λ c=>za y.cells 1 λ c_1=>za y.cells 2 λ c_2=>za y.cells 3 λ c_3=>za y.cells 4 λ c_4=>zc (f (D.agg [c,c_1,c_2,c_3,c_4])) λ b=>bif p b then some (Out.ret (V.d (D.int .i64 i)),[]) else LP cx (zt 171 vp f (λ t=>mkB (p t)) S) n 45 0 2 k [(0,V.d (D.sl 5 (T.ds l))),(1,V.func 171 []),(7,V.d (D.int .i64 (↑l.length:Int))),(8,V.d (D.int .i64 (IntKind.i64.wrap (i+(1:Int)))))] [] (AK cx (zt 171 vp f (λ t=>mkB (p t)) S) n 45 0 2 (EK cx 45 0))) else some (Out.ret (V.d (D.int .i64 (Int.negSucc 0))),[]):=by kernel_rfl
theorem yca(n k:Nat)(l:List T)(i:Int)(f:D→Option T)(p:T→Bool)(S:CK R1):LP cx (zt 139 vp f (λ t=>mkB (p t)) S) n 45 0 2 (k+1) [(0,V.d (D.sl 5 (T.ds l))),(1,V.func 139 []),(7,V.d (D.int .i64 (l.length:Int))),(8,V.d (D.int .i64 i))] [] (AK cx (zt 139 vp f (λ t=>mkB (p t)) S) n 45 0 2 (EK cx 45 0))=bif decide (i<(↑l.length:Int)) then zb (decide (0≤i)&&decide (i<(↑(T.ds l).length:Int))) (za (T.ds l) i.toNat λ y=>za y.cells 0 λ c=>za y.cells 1 λ c_1=>za y.cells 2 λ c_2=>za y.cells 3 λ c_3=>za y.cells 4 λ c_4=>zc (f (D.agg [c,c_1,c_2,c_3,c_4])) λ b=>bif p b then some (Out.ret (V.d (D.int .i64 i)),[]) else LP cx (zt 139 vp f (λ t=>mkB (p t)) S) n 45 0 2 k [(0,V.d (D.sl 5 (T.ds l))),(1,V.func 139 []),(7,V.d (D.int .i64 (↑l.length:Int))),(8,V.d (D.int .i64 (IntKind.i64.wrap (i+(1:Int)))))] [] (AK cx (zt 139 vp f (λ t=>mkB (p t)) S) n 45 0 2 (EK cx 45 0))) else some (Out.ret (V.d (D.int .i64 (Int.negSucc 0))),[]):=by kernel_rfl
theorem yfj(n:Nat)(l:List D)(f:D→Option (List T))(p:T→Bool)(S:CK R1):zl cx (zt 45 (zhr 171) f (λ t=>mkI (y8 p t)) S) n 138 [.d (.sl 5 l),.func 171 []] []=zc (f (D.sl 5 l)) λ b=>some (Out.ret (V.d (D.bool (decide ((0:Int)≤y8 p b)))),[]):=by kernel_rfl
theorem yfi(n:Nat)(l:List D)(f:D→Option (List T))(p:T→Bool)(S:CK R1):zl cx (zt 45 (zhr 139) f (λ t=>mkI (y8 p t)) S) n 138 [.d (.sl 5 l),.func 139 []] []=zc (f (D.sl 5 l)) λ b=>some (Out.ret (V.d (D.bool (decide ((0:Int)≤y8 p b)))),[]):=by kernel_rfl
theorem z83{f:D→Option T}{p:T→Bool}{S:CK R1}(hK:knows cx (zt 171 vp f (λ t=>mkB (p t)) S).S (zh cx))(l:List T)(hl:yd l=true)(hf:∀ t∈l,f t.d=some t) :
  zh cx 45 [.d (.sl 5 (T.ds l)),.func 171 []] []=some (.ret (mkI (y8 p l)),[]):=by
 refine zk hK (N:=l.length+1) ?_;rw [g86]
 have h:=zef (λ k i=>LP cx (zt 171 vp f (λ t=>mkB (p t)) S) (l.length+1) 45 0 2 k [(0,V.d (D.sl 5 (T.ds l))),(1,V.func 171 []),(7,V.d (D.int .i64 (l.length:Int))),(8,V.d (D.int .i64 i))] [] (AK cx (zt 171 vp f (λ t=>mkB (p t)) S) (l.length+1) 45 0 2 (EK cx 45 0)))
  l p (λ j=>some (Out.ret (V.d (D.int .i64 j)),[])) (some (Out.ret (V.d (D.int .i64 (Int.negSucc 0))),[])) (yh hl)
  (λ k j x hj hx=>by
   rw [ycb,zo,z6 hj,yy,zz,pm,hx];simp only [cond_true,zb,zc,Bool.and_self,yb,xo,wz,vc,vb,va,wj,hf x (po hx)]) (λ k=>by rw [ycb,yj,cond_false]) l 0 (l.length+1) rfl (Nat.zero_le _) (by omega)
 rw [zo];refine h.trans ?_;unfold y8;cases ym p l 0 <;> rfl
theorem z82{f:D→Option T}{p:T→Bool}{S:CK R1}(hK:knows cx (zt 139 vp f (λ t=>mkB (p t)) S).S (zh cx))(l:List T)(hl:yd l=true)(hf:∀ t∈l,f t.d=some t) :
  zh cx 45 [.d (.sl 5 (T.ds l)),.func 139 []] []=some (.ret (mkI (y8 p l)),[]):=by
 refine zk hK (N:=l.length+1) ?_;rw [g86]
 have h:=zef (λ k i=>LP cx (zt 139 vp f (λ t=>mkB (p t)) S) (l.length+1) 45 0 2 k [(0,V.d (D.sl 5 (T.ds l))),(1,V.func 139 []),(7,V.d (D.int .i64 (l.length:Int))),(8,V.d (D.int .i64 i))] [] (AK cx (zt 139 vp f (λ t=>mkB (p t)) S) (l.length+1) 45 0 2 (EK cx 45 0)))
  l p (λ j=>some (Out.ret (V.d (D.int .i64 j)),[])) (some (Out.ret (V.d (D.int .i64 (Int.negSucc 0))),[])) (yh hl)
  (λ k j x hj hx=>by
   rw [yca,zo,z6 hj,yy,zz,pm,hx];simp only [cond_true,zb,zc,Bool.and_self,yb,xo,wz,vc,vb,va,wj,hf x (po hx)]) (λ k=>by rw [yca,yj,cond_false]) l 0 (l.length+1) rfl (Nat.zero_le _) (by omega)
 rw [zo];refine h.trans ?_;unfold y8;cases ym p l 0 <;> rfl
theorem z88{f:D→Option T}(hf0:∀ x t,f x=some t→x=t.d){p:T→Bool}{S:CK R1}(hS:knows cx S.S (zh cx))(hK:knows cx (zt 171 vp f (λ t=>mkB (p t)) S).S (zh cx))(l:List T)(hl:yd l=true)(hf:∀ t∈l,f t.d=some t) :
  zh cx 138 [.d (.sl 5 (T.ds l)),.func 171 []] []=some (.ret (mkB (l.any p)),[]):=by
 have h86:knows cx (zt 45 (zhr 171) (qa f) (λ t=>mkI (y8 p t)) S).S (zh cx):=zj hS λ a q b hd h hb=>by
  obtain rfl:=zc8 h;obtain ⟨l,rfl,h1,h2⟩:=ze4 hb;obtain ⟨rfl,h3⟩:=zgd hf0 h1;exact z83 hK b h2 h3
 refine zk h86 (N:=0) ?_;rw [yfj,znx hf hl,←zgy];rfl
theorem z87{f:D→Option T}(hf0:∀ x t,f x=some t→x=t.d){p:T→Bool}{S:CK R1}(hS:knows cx S.S (zh cx))(hK:knows cx (zt 139 vp f (λ t=>mkB (p t)) S).S (zh cx))(l:List T)(hl:yd l=true)(hf:∀ t∈l,f t.d=some t) :
  zh cx 138 [.d (.sl 5 (T.ds l)),.func 139 []] []=some (.ret (mkB (l.any p)),[]):=by
 have h86:knows cx (zt 45 (zhr 139) (qa f) (λ t=>mkI (y8 p t)) S).S (zh cx):=zj hS λ a q b hd h hb=>by
  obtain rfl:=zc8 h;obtain ⟨l,rfl,h1,h2⟩:=ze4 hb;obtain ⟨rfl,h3⟩:=zgd hf0 h1;exact z82 hK b h2 h3
 refine zk h86 (N:=0) ?_;rw [yfi,znx hf hl,←zgy];rfl
theorem g65(n m:Nat)(k:Int)(nm:List UInt8)(kids:List T)(nms:List (List UInt8))(pl:Int)(S:CK R1):zl cx (zt 138 (zhr 171) (qa Sp.toC) (λ l=>mkB (l.any (λ t=>!qq t))) (zt 94 vp (zg m) (λ t=>mkB (Sp.right t)) S)) n 140 [.d (.agg [.int .i64 k,.str nm,.sl 5 (T.ds kids),.sl 1 (nms.map .str),.int .i64 pl])] []=bif !decide (k=(11:Int)) then some (Out.ret (V.d (D.bool false)),[]) else bif decide ((↑(T.ds kids).length:Int)<(1:Int)) then some (Out.ret (V.d (D.bool false)),[]) else bif decide ((2:Int)<(↑(T.ds kids).length:Int)) then some (Out.ret (V.d (D.bool false)),[]) else bif decide ((0:Int)<(↑(List.map D.str nms).length:Int)) then some (Out.ret (V.d (D.bool false)),[]) else bif !decide (nm=[]) then some (Out.ret (V.d (D.bool false)),[]) else zb (decide ((0:Int)<(↑(T.ds kids).length:Int))) (za (T.ds kids) (0:Int).toNat λ y=>za y.cells 0 λ c=>za y.cells 1 λ c_1=>za y.cells 2 λ c_2=>za y.cells 3 λ c_3=>za y.cells 4 λ c_4=>match c with
 | D.int k' n=>bif decide (k'=IntKind.i64) then bif !decide (n=(12:Int)) then some (Out.ret (V.d (D.bool false)),[]) else match c_3 with
  | D.sl s l=>bif s.beq (cx.P.cellsOf 9)||l.isEmpty then bif decide ((0:Int)<(↑l.length:Int)) then some (Out.ret (V.d (D.bool false)),[]) else match c_1 with
   | D.str s=>bif !decide (s=[]) then some (Out.ret (V.d (D.bool false)),[]) else match c_2 with
    | D.sl s l=>bif s.beq (cx.P.cellsOf 26)||l.isEmpty then zc (qa Sp.toC (D.sl 5 l)) λ b=>bif b.any λ t=>!qq t then some (Out.ret (V.d (D.bool false)),[]) else bif decide ((↑(T.ds kids).length:Int)=(1:Int)) then some (Out.ret (V.d (D.bool true)),[]) else zb (decide ((1:Int)<(↑(T.ds kids).length:Int))) (za (T.ds kids) (1:Int).toNat λ y=>za y.cells 0 λ c=>za y.cells 1 λ c_5=>za y.cells 2 λ c_6=>za y.cells 3 λ c_7=>za y.cells 4 λ c_8=>zc (zg m (D.agg [c,c_5,c_6,c_7,c_8])) λ b=>some (Out.ret (V.d (D.bool (Sp.right b))),[])) else none
    | x=>none
   | x=>none else none
  | x=>none else none
 | x=>none):=by kernel_rfl
theorem g64(n:Nat)(k:Int)(nm:List UInt8)(kids:List T)(nms:List (List UInt8))(pl:Int)(f:D→Option T)(S:CK R1):zl cx (zt 140 vp f (λ t=>mkB (Sp.elem t)) S) n 139 [.d (.agg [.int .i64 k,.str nm,.sl 5 (T.ds kids),.sl 1 (nms.map .str),.int .i64 pl])] []=zc (f (D.agg [D.int .i64 k,D.str nm,D.sl 5 (T.ds kids),D.sl 1 (List.map D.str nms),D.int .i64 pl])) λ b=>some (Out.ret (V.d (D.bool !Sp.elem b)),[]):=by kernel_rfl
theorem g37(n m:Nat)(k:Int)(nm:List UInt8)(kids:List T)(nms:List (List UInt8))(pl:Int):zl cx (zt 138 (zhr 139) (qa (zg m)) (λ l=>mkB (l.any (λ t=>!Sp.elem t))) (zt 94 vp (zg m) (λ t=>mkB (Sp.right t)) K5)) n 94 [.d (.agg [.int .i64 k,.str nm,.sl 5 (T.ds kids),.sl 1 (nms.map .str),.int .i64 pl])] []=bif decide (k=(1:Int)) then zc (zc (Sp.toC (D.agg [D.int .i64 k,D.str nm,D.sl 5 (T.ds kids),D.sl 1 (List.map D.str nms),D.int .i64 pl],(0:Int),(0:Int),true).fst) λ t=>some (t,(0:Int),(0:Int),true)) λ b=>bif Sp.plain b then zb (decide (nm.length≤big)) (some (Out.ret (V.d (D.bool (Sp.named nm))),[])) else some (Out.ret (V.d (D.bool false)),[]) else bif decide (k=(2:Int)) then bif decide (k=(2:Int)) then bif decide ((0:Int)<(↑(List.map D.str nms).length:Int)) then zc (zc (Sp.toC (D.agg [D.int .i64 k,D.str nm,D.sl 5 (T.ds kids),D.sl 1 (List.map D.str nms),D.int .i64 pl],(1:Int),(↑(List.map D.str nms).length:Int),false).fst) λ t=>some (t,(1:Int),(↑(List.map D.str nms).length:Int),false)) λ b=>bif Sp.plain b then zb (decide ((0:Int)<(↑(T.ds kids).length:Int))) (za (T.ds kids) (0:Int).toNat λ y=>za y.cells 0 λ c=>za y.cells 1 λ c_1=>za y.cells 2 λ c_2=>za y.cells 3 λ c_3=>za y.cells 4 λ c_4=>zc (zg m (D.agg [c,c_1,c_2,c_3,c_4])) λ b=>some (Out.ret (V.d (D.bool (Sp.right b))),[])) else some (Out.ret (V.d (D.bool false)),[]) else some (Out.ret (V.d (D.bool false)),[]) else bif decide (k=(4:Int)) then bif decide (k=(4:Int)) then bif decide ((↑(List.map D.str nms).length:Int)<(2:Int)) then zc (zc (Sp.toC (D.agg [D.int .i64 k,D.str nm,D.sl 5 (T.ds kids),D.sl 1 (List.map D.str nms),D.int .i64 pl],(2:Int),(↑(List.map D.str nms).length:Int),false).fst) λ t=>some (t,(2:Int),(↑(List.map D.str nms).length:Int),false)) λ b=>bif Sp.plain b then zb (decide ((0:Int)<(↑(T.ds kids).length:Int))) (za (T.ds kids) (0:Int).toNat λ y=>za y.cells 0 λ c=>za y.cells 1 λ c_1=>za y.cells 2 λ c_2=>za y.cells 3 λ c_3=>za y.cells 4 λ c_4=>zc (zg m (D.agg [c,c_1,c_2,c_3,c_4])) λ b=>bif Sp.right b then zb (decide ((1:Int)<(↑(T.ds kids).length:Int))) (za (T.ds kids) (1:Int).toNat λ y=>za y.cells 0 λ c=>za y.cells 1 λ c_5=>za y.cells 2 λ c_6=>za y.cells 3 λ c_7=>za y.cells 4 λ c_8=>zc (zg m (D.agg [c,c_5,c_6,c_7,c_8])) λ b=>some (Out.ret (V.d (D.bool (Sp.right b))),[])) else some (Out.ret (V.d (D.bool false)),[])) else some (Out.ret (V.d (D.bool false)),[]) else some (Out.ret (V.d (D.bool false)),[]) else bif decide (k=(6:Int)) then bif decide (k=(6:Int)) then zc (zc (Sp.toC (D.agg [D.int .i64 k,D.str nm,D.sl 5 (T.ds kids),D.sl 1 (List.map D.str nms),D.int .i64 pl],(2:Int),(0:Int),false).fst) λ t=>some (t,(2:Int),(0:Int),false)) λ b=>bif Sp.plain b then zb (decide ((0:Int)<(↑(T.ds kids).length:Int))) (za (T.ds kids) (0:Int).toNat λ y=>za y.cells 0 λ c=>za y.cells 1 λ c_1=>za y.cells 2 λ c_2=>za y.cells 3 λ c_3=>za y.cells 4 λ c_4=>zc (zg m (D.agg [c,c_1,c_2,c_3,c_4])) λ b=>bif Sp.right b then zb (decide ((1:Int)<(↑(T.ds kids).length:Int))) (za (T.ds kids) (1:Int).toNat λ y=>za y.cells 0 λ c=>za y.cells 1 λ c_5=>za y.cells 2 λ c_6=>za y.cells 3 λ c_7=>za y.cells 4 λ c_8=>zc (zg m (D.agg [c,c_5,c_6,c_7,c_8])) λ b=>some (Out.ret (V.d (D.bool (Sp.right b))),[])) else some (Out.ret (V.d (D.bool false)),[])) else some (Out.ret (V.d (D.bool false)),[]) else bif decide (k=(7:Int)) then zc (zc (Sp.toC (D.agg [D.int .i64 k,D.str nm,D.sl 5 (T.ds kids),D.sl 1 (List.map D.str nms),D.int .i64 pl],(2:Int),(0:Int),false).fst) λ t=>some (t,(2:Int),(0:Int),false)) λ b=>bif Sp.plain b then zb (decide ((0:Int)<(↑(T.ds kids).length:Int))) (za (T.ds kids) (0:Int).toNat λ y=>za y.cells 0 λ c=>za y.cells 1 λ c_1=>za y.cells 2 λ c_2=>za y.cells 3 λ c_3=>za y.cells 4 λ c_4=>zc (zg m (D.agg [c,c_1,c_2,c_3,c_4])) λ b=>bif Sp.right b then zb (decide ((1:Int)<(↑(T.ds kids).length:Int))) (za (T.ds kids) (1:Int).toNat λ y=>za y.cells 0 λ c=>za y.cells 1 λ c_5=>za y.cells 2 λ c_6=>za y.cells 3 λ c_7=>za y.cells 4 λ c_8=>zc (Sp.toC (D.agg [c,c_5,c_6,c_7,c_8])) λ b=>some (Out.ret (V.d (D.bool (Sp.form b))),[])) else some (Out.ret (V.d (D.bool false)),[])) else some (Out.ret (V.d (D.bool false)),[]) else bif decide (k=(10:Int)) then bif decide ((↑(List.map D.str nms).length:Int)=(0:Int)) then bif decide (nm=[]) then zc (qa (zg m) (D.sl 5 (T.ds kids))) λ b=>some (Out.ret (V.d (D.bool !b.any λ t=>!Sp.elem t)),[]) else some (Out.ret (V.d (D.bool false)),[]) else some (Out.ret (V.d (D.bool false)),[]) else some (Out.ret (V.d (D.bool false)),[]) else bif decide (k=(8:Int)) then bif decide (k=(8:Int)) then zc (zc (Sp.toC (D.agg [D.int .i64 k,D.str nm,D.sl 5 (T.ds kids),D.sl 1 (List.map D.str nms),D.int .i64 pl],(2:Int),(0:Int),false).fst) λ t=>some (t,(2:Int),(0:Int),false)) λ b=>bif Sp.plain b then zb (decide ((0:Int)<(↑(T.ds kids).length:Int))) (za (T.ds kids) (0:Int).toNat λ y=>za y.cells 0 λ c=>za y.cells 1 λ c_1=>za y.cells 2 λ c_2=>za y.cells 3 λ c_3=>za y.cells 4 λ c_4=>zc (zg m (D.agg [c,c_1,c_2,c_3,c_4])) λ b=>bif Sp.right b then zb (decide ((1:Int)<(↑(T.ds kids).length:Int))) (za (T.ds kids) (1:Int).toNat λ y=>za y.cells 0 λ c=>za y.cells 1 λ c_5=>za y.cells 2 λ c_6=>za y.cells 3 λ c_7=>za y.cells 4 λ c_8=>zc (zg m (D.agg [c,c_5,c_6,c_7,c_8])) λ b=>some (Out.ret (V.d (D.bool (Sp.right b))),[])) else some (Out.ret (V.d (D.bool false)),[])) else some (Out.ret (V.d (D.bool false)),[]) else bif decide (k=(7:Int)) then zc (zc (Sp.toC (D.agg [D.int .i64 k,D.str nm,D.sl 5 (T.ds kids),D.sl 1 (List.map D.str nms),D.int .i64 pl],(2:Int),(0:Int),false).fst) λ t=>some (t,(2:Int),(0:Int),false)) λ b=>bif Sp.plain b then zb (decide ((0:Int)<(↑(T.ds kids).length:Int))) (za (T.ds kids) (0:Int).toNat λ y=>za y.cells 0 λ c=>za y.cells 1 λ c_1=>za y.cells 2 λ c_2=>za y.cells 3 λ c_3=>za y.cells 4 λ c_4=>zc (zg m (D.agg [c,c_1,c_2,c_3,c_4])) λ b=>bif Sp.right b then zb (decide ((1:Int)<(↑(T.ds kids).length:Int))) (za (T.ds kids) (1:Int).toNat λ y=>za y.cells 0 λ c=>za y.cells 1 λ c_5=>za y.cells 2 λ c_6=>za y.cells 3 λ c_7=>za y.cells 4 λ c_8=>zc (Sp.toC (D.agg [c,c_5,c_6,c_7,c_8])) λ b=>some (Out.ret (V.d (D.bool (Sp.form b))),[])) else some (Out.ret (V.d (D.bool false)),[])) else some (Out.ret (V.d (D.bool false)),[]) else bif decide (k=(10:Int)) then bif decide ((↑(List.map D.str nms).length:Int)=(0:Int)) then bif decide (nm=[]) then zc (qa (zg m) (D.sl 5 (T.ds kids))) λ b=>some (Out.ret (V.d (D.bool !b.any λ t=>!Sp.elem t)),[]) else some (Out.ret (V.d (D.bool false)),[]) else some (Out.ret (V.d (D.bool false)),[]) else some (Out.ret (V.d (D.bool false)),[]) else bif decide (k=(9:Int)) then zc (zc (Sp.toC (D.agg [D.int .i64 k,D.str nm,D.sl 5 (T.ds kids),D.sl 1 (List.map D.str nms),D.int .i64 pl],(2:Int),(0:Int),false).fst) λ t=>some (t,(2:Int),(0:Int),false)) λ b=>bif Sp.plain b then zb (decide ((0:Int)<(↑(T.ds kids).length:Int))) (za (T.ds kids) (0:Int).toNat λ y=>za y.cells 0 λ c=>za y.cells 1 λ c_1=>za y.cells 2 λ c_2=>za y.cells 3 λ c_3=>za y.cells 4 λ c_4=>zc (zg m (D.agg [c,c_1,c_2,c_3,c_4])) λ b=>bif Sp.right b then zb (decide ((1:Int)<(↑(T.ds kids).length:Int))) (za (T.ds kids) (1:Int).toNat λ y=>za y.cells 0 λ c=>za y.cells 1 λ c_5=>za y.cells 2 λ c_6=>za y.cells 3 λ c_7=>za y.cells 4 λ c_8=>zc (zg m (D.agg [c,c_5,c_6,c_7,c_8])) λ b=>some (Out.ret (V.d (D.bool (Sp.right b))),[])) else some (Out.ret (V.d (D.bool false)),[])) else some (Out.ret (V.d (D.bool false)),[]) else bif decide (k=(7:Int)) then zc (zc (Sp.toC (D.agg [D.int .i64 k,D.str nm,D.sl 5 (T.ds kids),D.sl 1 (List.map D.str nms),D.int .i64 pl],(2:Int),(0:Int),false).fst) λ t=>some (t,(2:Int),(0:Int),false)) λ b=>bif Sp.plain b then zb (decide ((0:Int)<(↑(T.ds kids).length:Int))) (za (T.ds kids) (0:Int).toNat λ y=>za y.cells 0 λ c=>za y.cells 1 λ c_1=>za y.cells 2 λ c_2=>za y.cells 3 λ c_3=>za y.cells 4 λ c_4=>zc (zg m (D.agg [c,c_1,c_2,c_3,c_4])) λ b=>bif Sp.right b then zb (decide ((1:Int)<(↑(T.ds kids).length:Int))) (za (T.ds kids) (1:Int).toNat λ y=>za y.cells 0 λ c=>za y.cells 1 λ c_5=>za y.cells 2 λ c_6=>za y.cells 3 λ c_7=>za y.cells 4 λ c_8=>zc (Sp.toC (D.agg [c,c_5,c_6,c_7,c_8])) λ b=>some (Out.ret (V.d (D.bool (Sp.form b))),[])) else some (Out.ret (V.d (D.bool false)),[])) else some (Out.ret (V.d (D.bool false)),[]) else bif decide (k=(10:Int)) then bif decide ((↑(List.map D.str nms).length:Int)=(0:Int)) then bif decide (nm=[]) then zc (qa (zg m) (D.sl 5 (T.ds kids))) λ b=>some (Out.ret (V.d (D.bool !b.any λ t=>!Sp.elem t)),[]) else some (Out.ret (V.d (D.bool false)),[]) else some (Out.ret (V.d (D.bool false)),[]) else some (Out.ret (V.d (D.bool false)),[]) else bif decide (k=(5:Int)) then bif decide ((↑(List.map D.str nms).length:Int)<(2:Int)) then zc (zc (Sp.toC (D.agg [D.int .i64 k,D.str nm,D.sl 5 (T.ds kids),D.sl 1 (List.map D.str nms),D.int .i64 pl],(2:Int),(↑(List.map D.str nms).length:Int),false).fst) λ t=>some (t,(2:Int),(↑(List.map D.str nms).length:Int),false)) λ b=>bif Sp.plain b then zb (decide ((0:Int)<(↑(T.ds kids).length:Int))) (za (T.ds kids) (0:Int).toNat λ y=>za y.cells 0 λ c=>za y.cells 1 λ c_1=>za y.cells 2 λ c_2=>za y.cells 3 λ c_3=>za y.cells 4 λ c_4=>zc (zg m (D.agg [c,c_1,c_2,c_3,c_4])) λ b=>bif Sp.right b then zb (decide ((1:Int)<(↑(T.ds kids).length:Int))) (za (T.ds kids) (1:Int).toNat λ y=>za y.cells 0 λ c=>za y.cells 1 λ c_5=>za y.cells 2 λ c_6=>za y.cells 3 λ c_7=>za y.cells 4 λ c_8=>zc (zg m (D.agg [c,c_5,c_6,c_7,c_8])) λ b=>some (Out.ret (V.d (D.bool (Sp.right b))),[])) else some (Out.ret (V.d (D.bool false)),[])) else some (Out.ret (V.d (D.bool false)),[]) else some (Out.ret (V.d (D.bool false)),[]) else bif decide (k=(6:Int)) then bif decide (k=(6:Int)) then zc (zc (Sp.toC (D.agg [D.int .i64 k,D.str nm,D.sl 5 (T.ds kids),D.sl 1 (List.map D.str nms),D.int .i64 pl],(2:Int),(0:Int),false).fst) λ t=>some (t,(2:Int),(0:Int),false)) λ b=>bif Sp.plain b then zb (decide ((0:Int)<(↑(T.ds kids).length:Int))) (za (T.ds kids) (0:Int).toNat λ y=>za y.cells 0 λ c=>za y.cells 1 λ c_1=>za y.cells 2 λ c_2=>za y.cells 3 λ c_3=>za y.cells 4 λ c_4=>zc (zg m (D.agg [c,c_1,c_2,c_3,c_4])) λ b=>bif Sp.right b then zb (decide ((1:Int)<(↑(T.ds kids).length:Int))) (za (T.ds kids) (1:Int).toNat λ y=>za y.cells 0 λ c=>za y.cells 1 λ c_5=>za y.cells 2 λ c_6=>za y.cells 3 λ c_7=>za y.cells 4 λ c_8=>zc (zg m (D.agg [c,c_5,c_6,c_7,c_8])) λ b=>some (Out.ret (V.d (D.bool (Sp.right b))),[])) else some (Out.ret (V.d (D.bool false)),[])) else some (Out.ret (V.d (D.bool false)),[]) else bif decide (k=(7:Int)) then zc (zc (Sp.toC (D.agg [D.int .i64 k,D.str nm,D.sl 5 (T.ds kids),D.sl 1 (List.map D.str nms),D.int .i64 pl],(2:Int),(0:Int),false).fst) λ t=>some (t,(2:Int),(0:Int),false)) λ b=>bif Sp.plain b then zb (decide ((0:Int)<(↑(T.ds kids).length:Int))) (za (T.ds kids) (0:Int).toNat λ y=>za y.cells 0 λ c=>za y.cells 1 λ c_1=>za y.cells 2 λ c_2=>za y.cells 3 λ c_3=>za y.cells 4 λ c_4=>zc (zg m (D.agg [c,c_1,c_2,c_3,c_4])) λ b=>bif Sp.right b then zb (decide ((1:Int)<(↑(T.ds kids).length:Int))) (za (T.ds kids) (1:Int).toNat λ y=>za y.cells 0 λ c=>za y.cells 1 λ c_5=>za y.cells 2 λ c_6=>za y.cells 3 λ c_7=>za y.cells 4 λ c_8=>zc (Sp.toC (D.agg [c,c_5,c_6,c_7,c_8])) λ b=>some (Out.ret (V.d (D.bool (Sp.form b))),[])) else some (Out.ret (V.d (D.bool false)),[])) else some (Out.ret (V.d (D.bool false)),[]) else bif decide (k=(10:Int)) then bif decide ((↑(List.map D.str nms).length:Int)=(0:Int)) then bif decide (nm=[]) then zc (qa (zg m) (D.sl 5 (T.ds kids))) λ b=>some (Out.ret (V.d (D.bool !b.any λ t=>!Sp.elem t)),[]) else some (Out.ret (V.d (D.bool false)),[]) else some (Out.ret (V.d (D.bool false)),[]) else some (Out.ret (V.d (D.bool false)),[]) else bif decide (k=(8:Int)) then bif decide (k=(8:Int)) then zc (zc (Sp.toC (D.agg [D.int .i64 k,D.str nm,D.sl 5 (T.ds kids),D.sl 1 (List.map D.str nms),D.int .i64 pl],(2:Int),(0:Int),false).fst) λ t=>some (t,(2:Int),(0:Int),false)) λ b=>bif Sp.plain b then zb (decide ((0:Int)<(↑(T.ds kids).length:Int))) (za (T.ds kids) (0:Int).toNat λ y=>za y.cells 0 λ c=>za y.cells 1 λ c_1=>za y.cells 2 λ c_2=>za y.cells 3 λ c_3=>za y.cells 4 λ c_4=>zc (zg m (D.agg [c,c_1,c_2,c_3,c_4])) λ b=>bif Sp.right b then zb (decide ((1:Int)<(↑(T.ds kids).length:Int))) (za (T.ds kids) (1:Int).toNat λ y=>za y.cells 0 λ c=>za y.cells 1 λ c_5=>za y.cells 2 λ c_6=>za y.cells 3 λ c_7=>za y.cells 4 λ c_8=>zc (zg m (D.agg [c,c_5,c_6,c_7,c_8])) λ b=>some (Out.ret (V.d (D.bool (Sp.right b))),[])) else some (Out.ret (V.d (D.bool false)),[])) else some (Out.ret (V.d (D.bool false)),[]) else bif decide (k=(7:Int)) then zc (zc (Sp.toC (D.agg [D.int .i64 k,D.str nm,D.sl 5 (T.ds kids),D.sl 1 (List.map D.str nms),D.int .i64 pl],(2:Int),(0:Int),false).fst) λ t=>some (t,(2:Int),(0:Int),false)) λ b=>bif Sp.plain b then zb (decide ((0:Int)<(↑(T.ds kids).length:Int))) (za (T.ds kids) (0:Int).toNat λ y=>za y.cells 0 λ c=>za y.cells 1 λ c_1=>za y.cells 2 λ c_2=>za y.cells 3 λ c_3=>za y.cells 4 λ c_4=>zc (zg m (D.agg [c,c_1,c_2,c_3,c_4])) λ b=>bif Sp.right b then zb (decide ((1:Int)<(↑(T.ds kids).length:Int))) (za (T.ds kids) (1:Int).toNat λ y=>za y.cells 0 λ c=>za y.cells 1 λ c_5=>za y.cells 2 λ c_6=>za y.cells 3 λ c_7=>za y.cells 4 λ c_8=>zc (Sp.toC (D.agg [c,c_5,c_6,c_7,c_8])) λ b=>some (Out.ret (V.d (D.bool (Sp.form b))),[])) else some (Out.ret (V.d (D.bool false)),[])) else some (Out.ret (V.d (D.bool false)),[]) else bif decide (k=(10:Int)) then bif decide ((↑(List.map D.str nms).length:Int)=(0:Int)) then bif decide (nm=[]) then zc (qa (zg m) (D.sl 5 (T.ds kids))) λ b=>some (Out.ret (V.d (D.bool !b.any λ t=>!Sp.elem t)),[]) else some (Out.ret (V.d (D.bool false)),[]) else some (Out.ret (V.d (D.bool false)),[]) else some (Out.ret (V.d (D.bool false)),[]) else bif decide (k=(9:Int)) then zc (zc (Sp.toC (D.agg [D.int .i64 k,D.str nm,D.sl 5 (T.ds kids),D.sl 1 (List.map D.str nms),D.int .i64 pl],(2:Int),(0:Int),false).fst) λ t=>some (t,(2:Int),(0:Int),false)) λ b=>bif Sp.plain b then zb (decide ((0:Int)<(↑(T.ds kids).length:Int))) (za (T.ds kids) (0:Int).toNat λ y=>za y.cells 0 λ c=>za y.cells 1 λ c_1=>za y.cells 2 λ c_2=>za y.cells 3 λ c_3=>za y.cells 4 λ c_4=>zc (zg m (D.agg [c,c_1,c_2,c_3,c_4])) λ b=>bif Sp.right b then zb (decide ((1:Int)<(↑(T.ds kids).length:Int))) (za (T.ds kids) (1:Int).toNat λ y=>za y.cells 0 λ c=>za y.cells 1 λ c_5=>za y.cells 2 λ c_6=>za y.cells 3 λ c_7=>za y.cells 4 λ c_8=>zc (zg m (D.agg [c,c_5,c_6,c_7,c_8])) λ b=>some (Out.ret (V.d (D.bool (Sp.right b))),[])) else some (Out.ret (V.d (D.bool false)),[])) else some (Out.ret (V.d (D.bool false)),[]) else bif decide (k=(7:Int)) then zc (zc (Sp.toC (D.agg [D.int .i64 k,D.str nm,D.sl 5 (T.ds kids),D.sl 1 (List.map D.str nms),D.int .i64 pl],(2:Int),(0:Int),false).fst) λ t=>some (t,(2:Int),(0:Int),false)) λ b=>bif Sp.plain b then zb (decide ((0:Int)<(↑(T.ds kids).length:Int))) (za (T.ds kids) (0:Int).toNat λ y=>za y.cells 0 λ c=>za y.cells 1 λ c_1=>za y.cells 2 λ c_2=>za y.cells 3 λ c_3=>za y.cells 4 λ c_4=>zc (zg m (D.agg [c,c_1,c_2,c_3,c_4])) λ b=>bif Sp.right b then zb (decide ((1:Int)<(↑(T.ds kids).length:Int))) (za (T.ds kids) (1:Int).toNat λ y=>za y.cells 0 λ c=>za y.cells 1 λ c_5=>za y.cells 2 λ c_6=>za y.cells 3 λ c_7=>za y.cells 4 λ c_8=>zc (Sp.toC (D.agg [c,c_5,c_6,c_7,c_8])) λ b=>some (Out.ret (V.d (D.bool (Sp.form b))),[])) else some (Out.ret (V.d (D.bool false)),[])) else some (Out.ret (V.d (D.bool false)),[]) else bif decide (k=(10:Int)) then bif decide ((↑(List.map D.str nms).length:Int)=(0:Int)) then bif decide (nm=[]) then zc (qa (zg m) (D.sl 5 (T.ds kids))) λ b=>some (Out.ret (V.d (D.bool !b.any λ t=>!Sp.elem t)),[]) else some (Out.ret (V.d (D.bool false)),[]) else some (Out.ret (V.d (D.bool false)),[]) else some (Out.ret (V.d (D.bool false)),[]) else bif decide (k=(3:Int)) then bif decide ((0:Int)<(↑(List.map D.str nms).length:Int)) then zc (zc (Sp.toC (D.agg [D.int .i64 k,D.str nm,D.sl 5 (T.ds kids),D.sl 1 (List.map D.str nms),D.int .i64 pl],(1:Int),(↑(List.map D.str nms).length:Int),false).fst) λ t=>some (t,(1:Int),(↑(List.map D.str nms).length:Int),false)) λ b=>bif Sp.plain b then zb (decide ((0:Int)<(↑(T.ds kids).length:Int))) (za (T.ds kids) (0:Int).toNat λ y=>za y.cells 0 λ c=>za y.cells 1 λ c_1=>za y.cells 2 λ c_2=>za y.cells 3 λ c_3=>za y.cells 4 λ c_4=>zc (zg m (D.agg [c,c_1,c_2,c_3,c_4])) λ b=>some (Out.ret (V.d (D.bool (Sp.right b))),[])) else some (Out.ret (V.d (D.bool false)),[]) else some (Out.ret (V.d (D.bool false)),[]) else bif decide (k=(4:Int)) then bif decide (k=(4:Int)) then bif decide ((↑(List.map D.str nms).length:Int)<(2:Int)) then zc (zc (Sp.toC (D.agg [D.int .i64 k,D.str nm,D.sl 5 (T.ds kids),D.sl 1 (List.map D.str nms),D.int .i64 pl],(2:Int),(↑(List.map D.str nms).length:Int),false).fst) λ t=>some (t,(2:Int),(↑(List.map D.str nms).length:Int),false)) λ b=>bif Sp.plain b then zb (decide ((0:Int)<(↑(T.ds kids).length:Int))) (za (T.ds kids) (0:Int).toNat λ y=>za y.cells 0 λ c=>za y.cells 1 λ c_1=>za y.cells 2 λ c_2=>za y.cells 3 λ c_3=>za y.cells 4 λ c_4=>zc (zg m (D.agg [c,c_1,c_2,c_3,c_4])) λ b=>bif Sp.right b then zb (decide ((1:Int)<(↑(T.ds kids).length:Int))) (za (T.ds kids) (1:Int).toNat λ y=>za y.cells 0 λ c=>za y.cells 1 λ c_5=>za y.cells 2 λ c_6=>za y.cells 3 λ c_7=>za y.cells 4 λ c_8=>zc (zg m (D.agg [c,c_5,c_6,c_7,c_8])) λ b=>some (Out.ret (V.d (D.bool (Sp.right b))),[])) else some (Out.ret (V.d (D.bool false)),[])) else some (Out.ret (V.d (D.bool false)),[]) else some (Out.ret (V.d (D.bool false)),[]) else bif decide (k=(6:Int)) then bif decide (k=(6:Int)) then zc (zc (Sp.toC (D.agg [D.int .i64 k,D.str nm,D.sl 5 (T.ds kids),D.sl 1 (List.map D.str nms),D.int .i64 pl],(2:Int),(0:Int),false).fst) λ t=>some (t,(2:Int),(0:Int),false)) λ b=>bif Sp.plain b then zb (decide ((0:Int)<(↑(T.ds kids).length:Int))) (za (T.ds kids) (0:Int).toNat λ y=>za y.cells 0 λ c=>za y.cells 1 λ c_1=>za y.cells 2 λ c_2=>za y.cells 3 λ c_3=>za y.cells 4 λ c_4=>zc (zg m (D.agg [c,c_1,c_2,c_3,c_4])) λ b=>bif Sp.right b then zb (decide ((1:Int)<(↑(T.ds kids).length:Int))) (za (T.ds kids) (1:Int).toNat λ y=>za y.cells 0 λ c=>za y.cells 1 λ c_5=>za y.cells 2 λ c_6=>za y.cells 3 λ c_7=>za y.cells 4 λ c_8=>zc (zg m (D.agg [c,c_5,c_6,c_7,c_8])) λ b=>some (Out.ret (V.d (D.bool (Sp.right b))),[])) else some (Out.ret (V.d (D.bool false)),[])) else some (Out.ret (V.d (D.bool false)),[]) else bif decide (k=(7:Int)) then zc (zc (Sp.toC (D.agg [D.int .i64 k,D.str nm,D.sl 5 (T.ds kids),D.sl 1 (List.map D.str nms),D.int .i64 pl],(2:Int),(0:Int),false).fst) λ t=>some (t,(2:Int),(0:Int),false)) λ b=>bif Sp.plain b then zb (decide ((0:Int)<(↑(T.ds kids).length:Int))) (za (T.ds kids) (0:Int).toNat λ y=>za y.cells 0 λ c=>za y.cells 1 λ c_1=>za y.cells 2 λ c_2=>za y.cells 3 λ c_3=>za y.cells 4 λ c_4=>zc (zg m (D.agg [c,c_1,c_2,c_3,c_4])) λ b=>bif Sp.right b then zb (decide ((1:Int)<(↑(T.ds kids).length:Int))) (za (T.ds kids) (1:Int).toNat λ y=>za y.cells 0 λ c=>za y.cells 1 λ c_5=>za y.cells 2 λ c_6=>za y.cells 3 λ c_7=>za y.cells 4 λ c_8=>zc (Sp.toC (D.agg [c,c_5,c_6,c_7,c_8])) λ b=>some (Out.ret (V.d (D.bool (Sp.form b))),[])) else some (Out.ret (V.d (D.bool false)),[])) else some (Out.ret (V.d (D.bool false)),[]) else bif decide (k=(10:Int)) then bif decide ((↑(List.map D.str nms).length:Int)=(0:Int)) then bif decide (nm=[]) then zc (qa (zg m) (D.sl 5 (T.ds kids))) λ b=>some (Out.ret (V.d (D.bool !b.any λ t=>!Sp.elem t)),[]) else some (Out.ret (V.d (D.bool false)),[]) else some (Out.ret (V.d (D.bool false)),[]) else some (Out.ret (V.d (D.bool false)),[]) else bif decide (k=(8:Int)) then bif decide (k=(8:Int)) then zc (zc (Sp.toC (D.agg [D.int .i64 k,D.str nm,D.sl 5 (T.ds kids),D.sl 1 (List.map D.str nms),D.int .i64 pl],(2:Int),(0:Int),false).fst) λ t=>some (t,(2:Int),(0:Int),false)) λ b=>bif Sp.plain b then zb (decide ((0:Int)<(↑(T.ds kids).length:Int))) (za (T.ds kids) (0:Int).toNat λ y=>za y.cells 0 λ c=>za y.cells 1 λ c_1=>za y.cells 2 λ c_2=>za y.cells 3 λ c_3=>za y.cells 4 λ c_4=>zc (zg m (D.agg [c,c_1,c_2,c_3,c_4])) λ b=>bif Sp.right b then zb (decide ((1:Int)<(↑(T.ds kids).length:Int))) (za (T.ds kids) (1:Int).toNat λ y=>za y.cells 0 λ c=>za y.cells 1 λ c_5=>za y.cells 2 λ c_6=>za y.cells 3 λ c_7=>za y.cells 4 λ c_8=>zc (zg m (D.agg [c,c_5,c_6,c_7,c_8])) λ b=>some (Out.ret (V.d (D.bool (Sp.right b))),[])) else some (Out.ret (V.d (D.bool false)),[])) else some (Out.ret (V.d (D.bool false)),[]) else bif decide (k=(7:Int)) then zc (zc (Sp.toC (D.agg [D.int .i64 k,D.str nm,D.sl 5 (T.ds kids),D.sl 1 (List.map D.str nms),D.int .i64 pl],(2:Int),(0:Int),false).fst) λ t=>some (t,(2:Int),(0:Int),false)) λ b=>bif Sp.plain b then zb (decide ((0:Int)<(↑(T.ds kids).length:Int))) (za (T.ds kids) (0:Int).toNat λ y=>za y.cells 0 λ c=>za y.cells 1 λ c_1=>za y.cells 2 λ c_2=>za y.cells 3 λ c_3=>za y.cells 4 λ c_4=>zc (zg m (D.agg [c,c_1,c_2,c_3,c_4])) λ b=>bif Sp.right b then zb (decide ((1:Int)<(↑(T.ds kids).length:Int))) (za (T.ds kids) (1:Int).toNat λ y=>za y.cells 0 λ c=>za y.cells 1 λ c_5=>za y.cells 2 λ c_6=>za y.cells 3 λ c_7=>za y.cells 4 λ c_8=>zc (Sp.toC (D.agg [c,c_5,c_6,c_7,c_8])) λ b=>some (Out.ret (V.d (D.bool (Sp.form b))),[])) else some (Out.ret (V.d (D.bool false)),[])) else some (Out.ret (V.d (D.bool false)),[]) else bif decide (k=(10:Int)) then bif decide ((↑(List.map D.str nms).length:Int)=(0:Int)) then bif decide (nm=[]) then zc (qa (zg m) (D.sl 5 (T.ds kids))) λ b=>some (Out.ret (V.d (D.bool !b.any λ t=>!Sp.elem t)),[]) else some (Out.ret (V.d (D.bool false)),[]) else some (Out.ret (V.d (D.bool false)),[]) else some (Out.ret (V.d (D.bool false)),[]) else bif decide (k=(9:Int)) then zc (zc (Sp.toC (D.agg [D.int .i64 k,D.str nm,D.sl 5 (T.ds kids),D.sl 1 (List.map D.str nms),D.int .i64 pl],(2:Int),(0:Int),false).fst) λ t=>some (t,(2:Int),(0:Int),false)) λ b=>bif Sp.plain b then zb (decide ((0:Int)<(↑(T.ds kids).length:Int))) (za (T.ds kids) (0:Int).toNat λ y=>za y.cells 0 λ c=>za y.cells 1 λ c_1=>za y.cells 2 λ c_2=>za y.cells 3 λ c_3=>za y.cells 4 λ c_4=>zc (zg m (D.agg [c,c_1,c_2,c_3,c_4])) λ b=>bif Sp.right b then zb (decide ((1:Int)<(↑(T.ds kids).length:Int))) (za (T.ds kids) (1:Int).toNat λ y=>za y.cells 0 λ c=>za y.cells 1 λ c_5=>za y.cells 2 λ c_6=>za y.cells 3 λ c_7=>za y.cells 4 λ c_8=>zc (zg m (D.agg [c,c_5,c_6,c_7,c_8])) λ b=>some (Out.ret (V.d (D.bool (Sp.right b))),[])) else some (Out.ret (V.d (D.bool false)),[])) else some (Out.ret (V.d (D.bool false)),[]) else bif decide (k=(7:Int)) then zc (zc (Sp.toC (D.agg [D.int .i64 k,D.str nm,D.sl 5 (T.ds kids),D.sl 1 (List.map D.str nms),D.int .i64 pl],(2:Int),(0:Int),false).fst) λ t=>some (t,(2:Int),(0:Int),false)) λ b=>bif Sp.plain b then zb (decide ((0:Int)<(↑(T.ds kids).length:Int))) (za (T.ds kids) (0:Int).toNat λ y=>za y.cells 0 λ c=>za y.cells 1 λ c_1=>za y.cells 2 λ c_2=>za y.cells 3 λ c_3=>za y.cells 4 λ c_4=>zc (zg m (D.agg [c,c_1,c_2,c_3,c_4])) λ b=>bif Sp.right b then zb (decide ((1:Int)<(↑(T.ds kids).length:Int))) (za (T.ds kids) (1:Int).toNat λ y=>za y.cells 0 λ c=>za y.cells 1 λ c_5=>za y.cells 2 λ c_6=>za y.cells 3 λ c_7=>za y.cells 4 λ c_8=>zc (Sp.toC (D.agg [c,c_5,c_6,c_7,c_8])) λ b=>some (Out.ret (V.d (D.bool (Sp.form b))),[])) else some (Out.ret (V.d (D.bool false)),[])) else some (Out.ret (V.d (D.bool false)),[]) else bif decide (k=(10:Int)) then bif decide ((↑(List.map D.str nms).length:Int)=(0:Int)) then bif decide (nm=[]) then zc (qa (zg m) (D.sl 5 (T.ds kids))) λ b=>some (Out.ret (V.d (D.bool !b.any λ t=>!Sp.elem t)),[]) else some (Out.ret (V.d (D.bool false)),[]) else some (Out.ret (V.d (D.bool false)),[]) else some (Out.ret (V.d (D.bool false)),[]) else bif decide (k=(5:Int)) then bif decide ((↑(List.map D.str nms).length:Int)<(2:Int)) then zc (zc (Sp.toC (D.agg [D.int .i64 k,D.str nm,D.sl 5 (T.ds kids),D.sl 1 (List.map D.str nms),D.int .i64 pl],(2:Int),(↑(List.map D.str nms).length:Int),false).fst) λ t=>some (t,(2:Int),(↑(List.map D.str nms).length:Int),false)) λ b=>bif Sp.plain b then zb (decide ((0:Int)<(↑(T.ds kids).length:Int))) (za (T.ds kids) (0:Int).toNat λ y=>za y.cells 0 λ c=>za y.cells 1 λ c_1=>za y.cells 2 λ c_2=>za y.cells 3 λ c_3=>za y.cells 4 λ c_4=>zc (zg m (D.agg [c,c_1,c_2,c_3,c_4])) λ b=>bif Sp.right b then zb (decide ((1:Int)<(↑(T.ds kids).length:Int))) (za (T.ds kids) (1:Int).toNat λ y=>za y.cells 0 λ c=>za y.cells 1 λ c_5=>za y.cells 2 λ c_6=>za y.cells 3 λ c_7=>za y.cells 4 λ c_8=>zc (zg m (D.agg [c,c_5,c_6,c_7,c_8])) λ b=>some (Out.ret (V.d (D.bool (Sp.right b))),[])) else some (Out.ret (V.d (D.bool false)),[])) else some (Out.ret (V.d (D.bool false)),[]) else some (Out.ret (V.d (D.bool false)),[]) else bif decide (k=(6:Int)) then bif decide (k=(6:Int)) then zc (zc (Sp.toC (D.agg [D.int .i64 k,D.str nm,D.sl 5 (T.ds kids),D.sl 1 (List.map D.str nms),D.int .i64 pl],(2:Int),(0:Int),false).fst) λ t=>some (t,(2:Int),(0:Int),false)) λ b=>bif Sp.plain b then zb (decide ((0:Int)<(↑(T.ds kids).length:Int))) (za (T.ds kids) (0:Int).toNat λ y=>za y.cells 0 λ c=>za y.cells 1 λ c_1=>za y.cells 2 λ c_2=>za y.cells 3 λ c_3=>za y.cells 4 λ c_4=>zc (zg m (D.agg [c,c_1,c_2,c_3,c_4])) λ b=>bif Sp.right b then zb (decide ((1:Int)<(↑(T.ds kids).length:Int))) (za (T.ds kids) (1:Int).toNat λ y=>za y.cells 0 λ c=>za y.cells 1 λ c_5=>za y.cells 2 λ c_6=>za y.cells 3 λ c_7=>za y.cells 4 λ c_8=>zc (zg m (D.agg [c,c_5,c_6,c_7,c_8])) λ b=>some (Out.ret (V.d (D.bool (Sp.right b))),[])) else some (Out.ret (V.d (D.bool false)),[])) else some (Out.ret (V.d (D.bool false)),[]) else bif decide (k=(7:Int)) then zc (zc (Sp.toC (D.agg [D.int .i64 k,D.str nm,D.sl 5 (T.ds kids),D.sl 1 (List.map D.str nms),D.int .i64 pl],(2:Int),(0:Int),false).fst) λ t=>some (t,(2:Int),(0:Int),false)) λ b=>bif Sp.plain b then zb (decide ((0:Int)<(↑(T.ds kids).length:Int))) (za (T.ds kids) (0:Int).toNat λ y=>za y.cells 0 λ c=>za y.cells 1 λ c_1=>za y.cells 2 λ c_2=>za y.cells 3 λ c_3=>za y.cells 4 λ c_4=>zc (zg m (D.agg [c,c_1,c_2,c_3,c_4])) λ b=>bif Sp.right b then zb (decide ((1:Int)<(↑(T.ds kids).length:Int))) (za (T.ds kids) (1:Int).toNat λ y=>za y.cells 0 λ c=>za y.cells 1 λ c_5=>za y.cells 2 λ c_6=>za y.cells 3 λ c_7=>za y.cells 4 λ c_8=>zc (Sp.toC (D.agg [c,c_5,c_6,c_7,c_8])) λ b=>some (Out.ret (V.d (D.bool (Sp.form b))),[])) else some (Out.ret (V.d (D.bool false)),[])) else some (Out.ret (V.d (D.bool false)),[]) else bif decide (k=(10:Int)) then bif decide ((↑(List.map D.str nms).length:Int)=(0:Int)) then bif decide (nm=[]) then zc (qa (zg m) (D.sl 5 (T.ds kids))) λ b=>some (Out.ret (V.d (D.bool !b.any λ t=>!Sp.elem t)),[]) else some (Out.ret (V.d (D.bool false)),[]) else some (Out.ret (V.d (D.bool false)),[]) else some (Out.ret (V.d (D.bool false)),[]) else bif decide (k=(8:Int)) then bif decide (k=(8:Int)) then zc (zc (Sp.toC (D.agg [D.int .i64 k,D.str nm,D.sl 5 (T.ds kids),D.sl 1 (List.map D.str nms),D.int .i64 pl],(2:Int),(0:Int),false).fst) λ t=>some (t,(2:Int),(0:Int),false)) λ b=>bif Sp.plain b then zb (decide ((0:Int)<(↑(T.ds kids).length:Int))) (za (T.ds kids) (0:Int).toNat λ y=>za y.cells 0 λ c=>za y.cells 1 λ c_1=>za y.cells 2 λ c_2=>za y.cells 3 λ c_3=>za y.cells 4 λ c_4=>zc (zg m (D.agg [c,c_1,c_2,c_3,c_4])) λ b=>bif Sp.right b then zb (decide ((1:Int)<(↑(T.ds kids).length:Int))) (za (T.ds kids) (1:Int).toNat λ y=>za y.cells 0 λ c=>za y.cells 1 λ c_5=>za y.cells 2 λ c_6=>za y.cells 3 λ c_7=>za y.cells 4 λ c_8=>zc (zg m (D.agg [c,c_5,c_6,c_7,c_8])) λ b=>some (Out.ret (V.d (D.bool (Sp.right b))),[])) else some (Out.ret (V.d (D.bool false)),[])) else some (Out.ret (V.d (D.bool false)),[]) else bif decide (k=(7:Int)) then zc (zc (Sp.toC (D.agg [D.int .i64 k,D.str nm,D.sl 5 (T.ds kids),D.sl 1 (List.map D.str nms),D.int .i64 pl],(2:Int),(0:Int),false).fst) λ t=>some (t,(2:Int),(0:Int),false)) λ b=>bif Sp.plain b then zb (decide ((0:Int)<(↑(T.ds kids).length:Int))) (za (T.ds kids) (0:Int).toNat λ y=>za y.cells 0 λ c=>za y.cells 1 λ c_1=>za y.cells 2 λ c_2=>za y.cells 3 λ c_3=>za y.cells 4 λ c_4=>zc (zg m (D.agg [c,c_1,c_2,c_3,c_4])) λ b=>bif Sp.right b then zb (decide ((1:Int)<(↑(T.ds kids).length:Int))) (za (T.ds kids) (1:Int).toNat λ y=>za y.cells 0 λ c=>za y.cells 1 λ c_5=>za y.cells 2 λ c_6=>za y.cells 3 λ c_7=>za y.cells 4 λ c_8=>zc (Sp.toC (D.agg [c,c_5,c_6,c_7,c_8])) λ b=>some (Out.ret (V.d (D.bool (Sp.form b))),[])) else some (Out.ret (V.d (D.bool false)),[])) else some (Out.ret (V.d (D.bool false)),[]) else bif decide (k=(10:Int)) then bif decide ((↑(List.map D.str nms).length:Int)=(0:Int)) then bif decide (nm=[]) then zc (qa (zg m) (D.sl 5 (T.ds kids))) λ b=>some (Out.ret (V.d (D.bool !b.any λ t=>!Sp.elem t)),[]) else some (Out.ret (V.d (D.bool false)),[]) else some (Out.ret (V.d (D.bool false)),[]) else some (Out.ret (V.d (D.bool false)),[]) else bif decide (k=(9:Int)) then zc (zc (Sp.toC (D.agg [D.int .i64 k,D.str nm,D.sl 5 (T.ds kids),D.sl 1 (List.map D.str nms),D.int .i64 pl],(2:Int),(0:Int),false).fst) λ t=>some (t,(2:Int),(0:Int),false)) λ b=>bif Sp.plain b then zb (decide ((0:Int)<(↑(T.ds kids).length:Int))) (za (T.ds kids) (0:Int).toNat λ y=>za y.cells 0 λ c=>za y.cells 1 λ c_1=>za y.cells 2 λ c_2=>za y.cells 3 λ c_3=>za y.cells 4 λ c_4=>zc (zg m (D.agg [c,c_1,c_2,c_3,c_4])) λ b=>bif Sp.right b then zb (decide ((1:Int)<(↑(T.ds kids).length:Int))) (za (T.ds kids) (1:Int).toNat λ y=>za y.cells 0 λ c=>za y.cells 1 λ c_5=>za y.cells 2 λ c_6=>za y.cells 3 λ c_7=>za y.cells 4 λ c_8=>zc (zg m (D.agg [c,c_5,c_6,c_7,c_8])) λ b=>some (Out.ret (V.d (D.bool (Sp.right b))),[])) else some (Out.ret (V.d (D.bool false)),[])) else some (Out.ret (V.d (D.bool false)),[]) else bif decide (k=(7:Int)) then zc (zc (Sp.toC (D.agg [D.int .i64 k,D.str nm,D.sl 5 (T.ds kids),D.sl 1 (List.map D.str nms),D.int .i64 pl],(2:Int),(0:Int),false).fst) λ t=>some (t,(2:Int),(0:Int),false)) λ b=>bif Sp.plain b then zb (decide ((0:Int)<(↑(T.ds kids).length:Int))) (za (T.ds kids) (0:Int).toNat λ y=>za y.cells 0 λ c=>za y.cells 1 λ c_1=>za y.cells 2 λ c_2=>za y.cells 3 λ c_3=>za y.cells 4 λ c_4=>zc (zg m (D.agg [c,c_1,c_2,c_3,c_4])) λ b=>bif Sp.right b then zb (decide ((1:Int)<(↑(T.ds kids).length:Int))) (za (T.ds kids) (1:Int).toNat λ y=>za y.cells 0 λ c=>za y.cells 1 λ c_5=>za y.cells 2 λ c_6=>za y.cells 3 λ c_7=>za y.cells 4 λ c_8=>zc (Sp.toC (D.agg [c,c_5,c_6,c_7,c_8])) λ b=>some (Out.ret (V.d (D.bool (Sp.form b))),[])) else some (Out.ret (V.d (D.bool false)),[])) else some (Out.ret (V.d (D.bool false)),[]) else bif decide (k=(10:Int)) then bif decide ((↑(List.map D.str nms).length:Int)=(0:Int)) then bif decide (nm=[]) then zc (qa (zg m) (D.sl 5 (T.ds kids))) λ b=>some (Out.ret (V.d (D.bool !b.any λ t=>!Sp.elem t)),[]) else some (Out.ret (V.d (D.bool false)),[]) else some (Out.ret (V.d (D.bool false)),[]) else some (Out.ret (V.d (D.bool false)),[]):=by kernel_rfl
theorem zmg{c x:Bool}{σ:St}:(bif c then some (Out.ret (V.d (D.bool false)),σ) else some (Out.ret (V.d (D.bool x)),σ))=some (Out.ret (V.d (D.bool (!c&&x))),σ):=by cases c <;> rfl
theorem ybs{m:Nat}(hm:∀ t:T,t.depth≤m→t.ok=true→zh cx 94 [.d t.d] []=some (.ret (mkB (Sp.right t)),[]))(t:T)(hd:t.depth≤m)(ho:t.ok=true) :
  zh cx 140 [.d t.d] []=some (.ret (mkB (Sp.elem t)),[]):=by
 have hA:knows cx (zt 94 vp (zg m) (λ t=>mkB (Sp.right t)) K5).S (zh cx):=zj zdq λ a q b _ h hb=>by
  obtain rfl:=xy h;obtain ⟨rfl,h1,h2⟩:=y5 hb;exact hm b h1 h2
 have hE:knows cx (zt 138 (zhr 171) (qa Sp.toC) (λ l=>mkB (l.any (λ t=>!qq t))) (zt 94 vp (zg m) (λ t=>mkB (Sp.right t)) K5)).S (zh cx):=zj hA λ a q b hd h hb=>by
  obtain rfl:=zc8 h;obtain ⟨l,rfl,h1,h2⟩:=ze4 hb;obtain ⟨rfl,h3⟩:=zgd (λ x t h=>(xz h).1) h1;exact z88 (λ x t h=>(xz h).1) zdq z5u b h2 h3
 obtain ⟨k,nm,kids,nms,pl⟩:=t;obtain ⟨h1,h2,h3,h4,h5⟩:=wu ho;have hkd:T.depths kids≤m:=by simp only [T.depth] at hd; omega
 refine zk hE (N:=0) ?_;refine (g65 0 m k nm kids nms pl K5).trans ?_;have hT:∀ t∈kids,zg m t.d=some t:=λ t h=>zad hkd h5 h;have hC:∀ t∈kids,qa Sp.toC (.sl 5 (T.ds t.kids))=some t.kids:=λ t h=>by
  obtain ⟨k',nm',kids',nms',pl'⟩:=t;obtain ⟨_,q2,_,_,q5⟩:=wu (wn h5 h);exact znx (λ u hu=>zdf q5 hu) q2
 have e9:Nat.beq 1 (cx.P.cellsOf 9)=true:=by kernel_rfl
 have e26:Nat.beq 5 (cx.P.cellsOf 26)=true:=by kernel_rfl
 simp only [zc,zo,pf,zb,cond_true,zz,yb,xo,wz,vc,vb,va,wj,zot,zl4,ztl,zkz,zmz,decide_true,e9,e26,Bool.true_or];have hk:k=11∨k ≠ 11:=by omega
 rcases hk with rfl | hk <;> rcases kids with _ | ⟨a,_ | ⟨b,_ | ⟨c,l⟩⟩⟩ <;> rcases nms with _ | ⟨x,nms⟩ <;> simp [Sp.elem,mkB,hT,hC,zbp,zg8, *]
 ·obtain ⟨k,nm',kids',nms',pl'⟩:=a;rcases nms' with _ | ⟨x,nms'⟩ <;> simp [qp,zl8,zkr,zgs,zac,zbp,zmg,Bool.and_assoc,List.not_any_eq_all_not]; rfl
 ·obtain ⟨k,nm',kids',nms',pl'⟩:=a;rcases nms' with _ | ⟨x,nms'⟩ <;> simp [qp,zl8,zkr,zgs,zac,zbp,zmg,Bool.and_assoc,List.not_any_eq_all_not]; rfl
 ·rw [pb (by omega),pa (by omega)]
  rfl
theorem ybt{m:Nat}(hm:∀ t:T,t.depth≤m→t.ok=true→zh cx 94 [.d t.d] []=some (.ret (mkB (Sp.right t)),[])) :
  knows cx (zt 139 vp (zg m) (λ t=>mkB (!Sp.elem t)) K5).S (zh cx):=zj zdq λ a q b _ h hb=>by
 obtain rfl:=xy h;obtain ⟨rfl,h1,h2⟩:=y5 hb;have h65:knows cx (zt 140 vp (zg m) (λ t=>mkB (Sp.elem t)) K5).S (zh cx):=zj zdq λ a q b _ h hb=>by
  obtain rfl:=xy h;obtain ⟨rfl,h1,h2⟩:=y5 hb;exact ybs hm b h1 h2
 refine zk h65 (N:=0) ?_;obtain ⟨k,nm,kids,nms,pl⟩:=b;refine (g64 0 k nm kids nms pl (zg m) K5).trans ?_;have:=zdu h1 h2;simp only [T.d] at this;rw [this];rfl
theorem z7y:∀ (m:Nat) (t:T),t.depth≤m→t.ok=true→zh cx 94 [.d t.d] []=some (.ret (mkB (Sp.right t)),[])
 | 0,.mk ..,h,_=>by simp [T.depth] at h
 | m+1,.mk k nm kids nms pl,hd,ho=>by
  have hm:∀ t:T,t.depth≤m→t.ok=true→zh cx 94 [.d t.d] []=some (.ret (mkB (Sp.right t)),[]):=λ t h1 h2=>z7y m t h1 h2;have hA:knows cx (zt 94 vp (zg m) (λ t=>mkB (Sp.right t)) K5).S (zh cx):=zj zdq λ a q b _ h hb=>by
   obtain rfl:=xy h;obtain ⟨rfl,h1,h2⟩:=y5 hb;exact hm b h1 h2
  have hR:knows cx (zt 138 (zhr 139) (qa (zg m)) (λ l=>mkB (l.any (λ t=>!Sp.elem t))) (zt 94 vp (zg m) (λ t=>mkB (Sp.right t)) K5)).S (zh cx):=zj hA λ a q b hd h hb=>by
   obtain rfl:=zc8 h;obtain ⟨l,rfl,h1,h2⟩:=ze4 hb;obtain ⟨rfl,h3⟩:=zgd (λ x t h=>(y5 h).1) h1;exact z87 (λ x t h=>(y5 h).1) zdq (ybt hm) b h2 h3
  obtain ⟨h1,h2,h3,h4,h5⟩:=wu ho;have hkd:=vo hd;refine zk hR (N:=0) ?_;refine (g37 0 m k nm kids nms pl).trans ?_;have hC:Sp.toC (D.agg [D.int .i64 k,D.str nm,D.sl 5 (T.ds kids),D.sl 1 (List.map D.str nms),D.int .i64 pl])=some (.mk k nm kids nms pl):=zhl ho;have hT:∀ t∈kids,zg m t.d=some t:=λ t h=>zad hkd h5 h;have hTC:∀ t∈kids,Sp.toC t.d=some t:=λ t h=>zdf h5 h;have hts:qa (zg m) (.sl 5 (T.ds kids))=some kids:=znx hT h2;simp only [hC,hts,zc,zo,pf,ql h1,zb,cond_true,zz,yb,xo,wz,vc,vb,va,wj,Sp.plain,zot,zl4,ztl,zkz,zmz,decide_true,Bool.and_true];clear hC hR hA ho hd hm hts;have hk:k=1∨k=2∨k=3∨k=4∨k=5∨k=6∨k=7∨k=8∨k=9∨k=10∨(k ≠ 1∧k ≠ 2∧k ≠ 3∧k ≠ 4∧k ≠ 5∧k ≠ 6∧k ≠ 7∧k ≠ 8∧k ≠ 9∧k ≠ 10):=by omega
  rcases hk with rfl | rfl | rfl | rfl | rfl | rfl | rfl | rfl | rfl | rfl | ⟨q1,q2,q3,q4,q5,q6,q7,q8,q9,q10⟩
  all_goals simp only [*,Int.reduceEq,decide_true,decide_false,cond_true,cond_false]
  all_goals rcases kids with _ | ⟨a,_ | ⟨b,_ | ⟨c,l⟩⟩⟩
  all_goals rcases nms with _ | ⟨x,_ | ⟨y,nms⟩⟩
  all_goals simp [Sp.right,mkB,hT,hTC,zbp,zg8,Bool.and_assoc,List.not_any_eq_all_not,zf6]
  all_goals first | (simp [*]; done) | (rw [pb (p:=((nms.length:Int)+1+1<2)) (by omega),pb (p:=nms.length+1+1<2) (by omega)]; simp)
def K8:CK R1:=zt 95 vp Sp.toC (λ t=>mkB (Sp.form t)) (zt 97 vp Sp.toC (λ t=>mkB (qp t)) (zt 96 vp zgb (λ l=>mkB (l.all Sp.named)) K1))
def KQ(m:Nat):CK R1:=zt 59 vp (zg m) (λ t=>mkB (Sp.right t)) K8
end Go.Vai
end
