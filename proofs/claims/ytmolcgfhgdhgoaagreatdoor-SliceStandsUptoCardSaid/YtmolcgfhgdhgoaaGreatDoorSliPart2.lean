/-
  Lex: the reference: signs. To: Show: the texts of trees; the functions that print, and what they see.
-/
import Derived.Test.YtmolcgfhgdhgoaaGreatDoorSliPart1
set_option linter.all false
noncomputable section
namespace Go.Vai
open Go.Proofs
theorem b19(n:Nat)(s:List UInt8)(i:Int) :
    zk cx zo n 201 [.d (.str s),.d (.int .i64 i)] [] =
  bif decide (IntKind.i64.wrap (i+(1:Int))<(↑s.length:Int)) then
    za
      (decide (0≤IntKind.i64.wrap (i+(2:Int))) &&
        decide (IntKind.i64.wrap (i+(2:Int))≤(↑s.length:Int)))
      (za (decide (0≤i)&&decide (i≤(↑(IntKind.i64.wrap (i+(2:Int))).toNat:Int)))
        (bif decide (List.drop i.toNat (List.take (IntKind.i64.wrap (i+(2:Int))).toNat s)=[45,62]) then
          some (Out.ret (V.d (D.int .i64 (2:Int))),[])
        else
          bif decide (List.drop i.toNat (List.take (IntKind.i64.wrap (i+(2:Int))).toNat s)=[47,92]) then
            some (Out.ret (V.d (D.int .i64 (2:Int))),[])
          else
            bif decide (List.drop i.toNat (List.take (IntKind.i64.wrap (i+(2:Int))).toNat s)=[92,47]) then
              some (Out.ret (V.d (D.int .i64 (2:Int))),[])
            else
              LP cx zo n 201 0 7 n
                [(0,V.d (D.str s)),(1,V.d (D.int .i64 i)),
                  (6,V.d (D.str [40,41,91,93,44,46,58,59,61,92,60,62,64,126,42,48,49])),
                  (7,V.d (D.int .i64 (0:Int)))]
                [] (AK cx zo n 201 0 7 (EK cx 201 0))))
  else
    LP cx zo n 201 0 7 n
      [(0,V.d (D.str s)),(1,V.d (D.int .i64 i)),
        (6,V.d (D.str [40,41,91,93,44,46,58,59,61,92,60,62,64,126,42,48,49])),
        (7,V.d (D.int .i64 (0:Int)))]
      [] (AK cx zo n 201 0 7 (EK cx 201 0)):=by kernel_rfl
theorem l19(n k:Nat)(s:List UInt8)(i j:Int) :
    LP cx zo n 201 0 7 (k+1) [(0,.d (.str s)),(1,.d (.int .i64 i)),(6,.d (.str [40,41,91,93,44,46,58,59,61,92,60,62,64,126,42,48,49])),(7,.d (.int .i64 j))] [] (AK cx zo n 201 0 7 (EK cx 201 0)) =
  bif decide (j<(17:Int)) then
    za (decide (0≤i)&&decide (i<(↑s.length:Int)))
      (zd s[i.toNat]? λ b=>
        za
          (decide (0≤j) &&
            decide (j<(↑([40,41,91,93,44,46,58,59,61,92,60,62,64,126,42,48,49]:List UInt8).length:Int)))
          (zd ([40,41,91,93,44,46,58,59,61,92,60,62,64,126,42,48,49]:List UInt8)[j.toNat]? λ b_1=>
            bif decide ((↑b.toNat:Int)=(↑b_1.toNat:Int)) then
              some (Out.ret (V.d (D.int .i64 (1:Int))),[])
            else
              LP cx zo n 201 0 7 k
                [(0,V.d (D.str s)),(1,V.d (D.int .i64 i)),
                  (6,V.d (D.str [40,41,91,93,44,46,58,59,61,92,60,62,64,126,42,48,49])),
                  (7,V.d (D.int .i64 (IntKind.i64.wrap (j+(1:Int)))))]
                [] (AK cx zo n 201 0 7 (EK cx 201 0))))
  else some (Out.ret (V.d (D.int .i64 (0:Int))),[]):=by kernel_rfl
def zgh:List UInt8:=[40,41,91,93,44,46,58,59,61,92,60,62,64,126,42,48,49]
theorem zll(b:UInt8)(r:List UInt8):∀ l:List UInt8,z6 (b::r) (l.map λ x=>[x])=bif l.any (λ x=>decide (b=x)) then (2,[b]) else (0,[])
 | []=>rfl
 | x::l=>by
  have ih:=zll b r l;simp only [List.map_cons,z6,List.any_cons];have h:zm (b::r) [x]=decide (b=x):=by simp [zm]
  rw [h,ih];by_cases hx:b=x
  ·subst hx; simp
  ·rw [pb hx]; simp
def zy(s:List UInt8)(i:Int):Int:=((z6 (s.drop i.toNat) zcp).2.length:Int)
theorem zqf{s:List UInt8}{n i:Nat}{b:UInt8}(hg:s[i]?=some b):∀ (r:List UInt8) (j k:Nat),zgh.drop j=r→r.length<k →
  LP cx zo n 201 0 7 k [(0,.d (.str s)),(1,.d (.int .i64 (i:Int))),(6,.d (.str zgh)),(7,.d (.int .i64 (j:Int)))] [] (AK cx zo n 201 0 7 (EK cx 201 0))=some (.ret (.d (.int .i64 (bif r.any (λ x=>decide (b=x)) then 1 else 0))),[])
 | _,_,0,_,hk=>by omega
 | [],j,k+1,hr,_=>by
  have h1:=drop_nil hr;have h2:(17:Nat)≤j:=h1;unfold zgh;rw [l19,pb (p:=(j:Int)<17) (by omega),cond_false]
  rfl
 | x::r,j,k+1,hr,hk=>by
  obtain ⟨h1,h2,h3⟩:=drop_cons hr;have h1':j<17:=h1;have ih:=zqf (n:=n) hg r (j+1) k h3 (by simpa using hk)
  have hlt:i<s.length:=(pj.1 hg).1;unfold zgh at h2 ih ⊢;rw [l19]
  simp only [pa (p:=(j:Int)<17) (by omega),cond_true,pa (p:=(0:Int)≤(i:Int)) (by omega),pa (p:=(i:Int)<(s.length:Int)) (by omega),Bool.and_self,za,pm,hg,zd,
   pa (p:=(0:Int)≤(j:Int)) (by omega),pa (p:=(j:Int)<((List.length [(40:UInt8),41,91,93,44,46,58,59,61,92,60,62,64,126,42,48,49]:Nat):Int)) (by simp; omega),h2]
  rw [wrapN (by omega) (by omega),show (j:Int)+1=((j+1:Nat):Int) by omega,ih,List.any_cons]
  by_cases hx:b=x
  ·subst hx; simp
  ·rw [pb hx,pb (p:=(b.toNat:Int)=(x.toNat:Int)) (by intro h; exact hx (UInt8.toNat_inj.1 (by omega)))]
   simp
theorem zvs:zcp=[45,62]::[47,92]::[92,47]::zgh.map λ x=>[x]:=rfl
theorem z9r(s:List UInt8)(j:Nat)(hs:s.length≤4611686018427387904)(hj:j<s.length):zh cx 201 [.d (.str s),.d (.int .i64 (j:Int))] []=some (.ret (.d (.int .i64 (zy s (j:Int)))),[]):=by
 refine xl (N:=18) (yu cx) ?_;obtain ⟨b,hg⟩:∃ b,s[j]?=some b:=⟨_,pr hj⟩;obtain ⟨r,hd⟩:∃ r,s.drop j=b::r:=⟨_,by rw [List.drop_eq_getElem_cons hj]; congr 1; exact Option.some.inj ((pr hj).symm.trans hg)⟩
 have ho:=zqf (n:=18) hg zgh 0 18 rfl (by decide)
 have w1:IntKind.i64.wrap ((j:Int)+1)=((j+1:Nat):Int):=by rw [wrapN (by omega) (by omega)]; omega
 have w2:IntKind.i64.wrap ((j:Int)+2)=((j+2:Nat):Int):=by rw [wrapN (by omega) (by omega)]; omega
 have hlen:(b::r).length=s.length - j:=by rw [←hd]; simp
 rw [b19,w1,w2];unfold zy;simp only [pm,hd,zvs,z6,zll,List.drop_take,show j+2 - j=2 by omega,zm,List.length_cons,List.length_nil,Nat.zero_add,Nat.reduceAdd]
 generalize zgh.any (λ x=>decide (b=x))=A at ho ⊢;by_cases h1:j+1<s.length
 ·simp only [pa (p:=((j+1:Nat):Int)<(s.length:Int)) (by omega),pa (p:=(0:Int)≤((j+2:Nat):Int)) (by omega),pa (p:=((j+2:Nat):Int)≤(s.length:Int)) (by omega),
   pa (p:=(0:Int)≤(j:Int)) (by omega),pa (p:=(j:Int)≤((j+2:Nat):Int)) (by omega),Bool.and_self,za,cond_true]
  cases hA:decide (List.take 2 (b::r)=[45,62])
  ·cases hB:decide (List.take 2 (b::r)=[47,92])
   ·cases hC:decide (List.take 2 (b::r)=[92,47])
    ·rw [cond_false,cond_false,cond_false];refine ho.trans ?_;cases A <;> rfl
    ·rfl
   ·rfl
  ·rfl
 ·have hr:r=[]:=by cases r with | nil=>rfl | cons c r=>simp at hlen; omega
  subst hr;rw [pb (p:=((j+1:Nat):Int)<(s.length:Int)) (by omega),cond_false]
  simp only [pb (p:=List.take 2 [b]=[45,62]) (by simp),pb (p:=List.take 2 [b]=[47,92]) (by simp),pb (p:=List.take 2 [b]=[92,47]) (by simp),cond_false]
  refine ho.trans ?_;cases A <;> rfl
def zmo(s:List UInt8):Int:=match wk s.length s 0 with | some p=>(p:Int) | none=>-1
def z5p:List V→Option Out | [.d (.str s)]=>some (.ret (.d (.int .i64 (zmo s)))) | _=>none
def z5t:List V→Option Out | [.d (.str s),.d (.int .i64 i)]=>some (.ret (.d (.int .i64 (zy s i)))) | _=>none
def S8:yk:=zhb 197 z5p (zhb 198 (zrj Sp.blank) (zhb 199 (zrj Sp.letter) (zhb 200 (zrj Sp.digit) (zhb 201 z5t zo))))
theorem z33:knows cx S8 (zh cx):=by
 refine xw (xw (xw (xw (xw (yu cx) ?_) ?_) ?_) ?_) ?_
 ·intro args o hd h;unfold z5t at h;split at h
  ·cases h;rename_i s a;have hd':(decide (s.length≤big)&&(decide (0≤a)&&decide (a<(s.length:Int))))=true:=hd;simp only [ph,decide_eq_true_eq] at hd';obtain ⟨h1,h2,h3⟩:=hd';have:=z9r s a.toNat h1 (by omega)
   rw [show ((a.toNat:Nat):Int)=a by omega] at this
   exact this
  ·cases h
 ·intro args o _ h;obtain ⟨c,rfl,rfl⟩:=zgc h;exact z9s c
 ·intro args o _ h;obtain ⟨c,rfl,rfl⟩:=zgc h;exact z9t c
 ·intro args o _ h;obtain ⟨c,rfl,rfl⟩:=zgc h;exact z9u c
 ·intro args o hd h;unfold z5p at h;split at h
  ·cases h; exact z9v _ (pc hd)
  ·cases h
theorem b8(n:Nat)(s:List UInt8) :
    zk cx S8 n 166 [.d (.str s)] [] =
  bif decide ((65536:Int)<(↑s.length:Int)) then
    some
      (Out.ret (V.tup [V.d (D.sl 3 []),V.d (D.int .i64 (0:Int)),V.d (D.int .i64 (3:Int))]),
        [])
  else
    za (decide (s.length≤big))
      (bif decide ((0:Int)≤zmo s) then
        some
          (Out.ret
              (V.tup [V.d (D.sl 3 []),V.d (D.int .i64 (zmo s)),V.d (D.int .i64 (60:Int))]),
            [])
      else
        LP cx S8 n 166 0 8 n [(0,V.d (D.str s)),(6,V.sl 3 [] 6),(7,V.d (D.int .i64 (0:Int)))]
          [(6,Ob.tok 0)] (AK cx S8 n 166 0 8 (EK cx 166 0))):=by kernel_rfl
theorem l8(n k:Nat)(s:List UInt8)(i:Int)(l:List D) :
    LP cx S8 n 166 0 8 (k+1) [(0,.d (.str s)),(6,.sl 3 l 6),(7,.d (.int .i64 i))] [(6,.tok l.length)] (AK cx S8 n 166 0 8 (EK cx 166 0)) =
  bif decide (i<(↑s.length:Int)) then
    za (decide (0≤i)&&decide (i<(↑s.length:Int)))
      (zd s[i.toNat]? λ b=>
        bif Sp.blank (↑b.toNat:Int) then
          LP cx S8 n 166 0 8 k
            [(0,V.d (D.str s)),(6,V.sl 3 l 6),(7,V.d (D.int .i64 (IntKind.i64.wrap (i+(1:Int)))))]
            [(6,Ob.tok l.length)] (AK cx S8 n 166 0 8 (EK cx 166 0))
        else
          za (decide (0≤i)&&decide (i<(↑s.length:Int)))
            (zd s[i.toNat]? λ b=>
              bif decide ((↑b.toNat:Int)=(45:Int)) then
                bif decide (IntKind.i64.wrap (i+(1:Int))<(↑s.length:Int)) then
                  za
                    (decide (0≤IntKind.i64.wrap (i+(1:Int))) &&
                      decide (IntKind.i64.wrap (i+(1:Int))<(↑s.length:Int)))
                    (zd s[(IntKind.i64.wrap (i+(1:Int))).toNat]? λ b=>
                      bif decide ((↑b.toNat:Int)=(45:Int)) then
                        LP cx S8 n 166 0 12 n [(0,V.d (D.str s)),(6,V.sl 3 l 6),(7,V.d (D.int .i64 i))]
                          [(6,Ob.tok l.length)]
                          (AL cx S8 n 166 0 8 12 (inK cx S8 n 166 0 8 k (AK cx S8 n 166 0 8 (EK cx 166 0))))
                      else
                        za (decide (0≤i)&&decide (i<(↑s.length:Int)))
                          (zd s[i.toNat]? λ b=>
                            bif Sp.letter (↑b.toNat:Int) then
                              LP cx S8 n 166 0 18 n
                                [(0,V.d (D.str s)),(6,V.sl 3 l 6),(7,V.d (D.int .i64 i)),
                                  (8,V.d (D.int .i64 i)),(9,V.d (D.int .i64 (1:Int)))]
                                [(6,Ob.tok l.length)]
                                (AL cx S8 n 166 0 8 18 (inK cx S8 n 166 0 8 k (AK cx S8 n 166 0 8 (EK cx 166 0))))
                            else
                              za (decide (s.length≤big)&&(decide (0≤i)&&decide (i<(↑s.length:Int))))
                                (bif decide (IntKind.i64.wrap (i+zy s i)=i) then
                                  some
                                    (Out.ret
                                        (V.tup
                                          [V.d (D.sl 3 []),V.d (D.int .i64 i),
                                            V.d (D.int .i64 (61:Int))]),
                                      [])
                                else
                                  za
                                    (decide (0≤IntKind.i64.wrap (i+zy s i)) &&
                                      decide (IntKind.i64.wrap (i+zy s i)≤(↑s.length:Int)))
                                    (za
                                      (decide (0≤i) &&
                                        decide (i≤(↑(IntKind.i64.wrap (i+zy s i)).toNat:Int)))
                                      (za
                                        (decide (l.length=l.length) &&
                                          decide
                                            (l.length +
                                                [D.agg
                                                      [D.int .i64 (2:Int),
                                                        D.str
                                                          (List.drop i.toNat
                                                            (List.take (IntKind.i64.wrap (i+zy s i)).toNat s)),
                                                        D.int .i64 i]].length ≤
                                              4294967296))
                                        (LP cx S8 n 166 0 8 k
                                          [(0,V.d (D.str s)),
                                            (6,
                                              V.sl 3
                                                (l ++
                                                  [D.agg
                                                      [D.int .i64 (2:Int),
                                                        D.str
                                                          (List.drop i.toNat
                                                            (List.take (IntKind.i64.wrap (i+zy s i)).toNat s)),
                                                        D.int .i64 i]])
                                                6),
                                            (7,V.d (D.int .i64 (IntKind.i64.wrap (i+zy s i))))]
                                          [(6,
                                              Ob.tok
                                                (l.length +
                                                  [D.agg
                                                        [D.int .i64 (2:Int),
                                                          D.str
                                                            (List.drop i.toNat
                                                              (List.take (IntKind.i64.wrap (i+zy s i)).toNat
                                                                s)),
                                                          D.int .i64 i]].length))]
                                          (AK cx S8 n 166 0 8 (EK cx 166 0))))))))
                else
                  za (decide (0≤i)&&decide (i<(↑s.length:Int)))
                    (zd s[i.toNat]? λ b=>
                      bif Sp.letter (↑b.toNat:Int) then
                        LP cx S8 n 166 0 18 n
                          [(0,V.d (D.str s)),(6,V.sl 3 l 6),(7,V.d (D.int .i64 i)),
                            (8,V.d (D.int .i64 i)),(9,V.d (D.int .i64 (1:Int)))]
                          [(6,Ob.tok l.length)]
                          (AL cx S8 n 166 0 8 18 (inK cx S8 n 166 0 8 k (AK cx S8 n 166 0 8 (EK cx 166 0))))
                      else
                        za (decide (s.length≤big)&&(decide (0≤i)&&decide (i<(↑s.length:Int))))
                          (bif decide (IntKind.i64.wrap (i+zy s i)=i) then
                            some
                              (Out.ret
                                  (V.tup
                                    [V.d (D.sl 3 []),V.d (D.int .i64 i),
                                      V.d (D.int .i64 (61:Int))]),
                                [])
                          else
                            za
                              (decide (0≤IntKind.i64.wrap (i+zy s i)) &&
                                decide (IntKind.i64.wrap (i+zy s i)≤(↑s.length:Int)))
                              (za
                                (decide (0≤i)&&decide (i≤(↑(IntKind.i64.wrap (i+zy s i)).toNat:Int)))
                                (za
                                  (decide (l.length=l.length) &&
                                    decide
                                      (l.length +
                                          [D.agg
                                                [D.int .i64 (2:Int),
                                                  D.str
                                                    (List.drop i.toNat
                                                      (List.take (IntKind.i64.wrap (i+zy s i)).toNat s)),
                                                  D.int .i64 i]].length ≤
                                        4294967296))
                                  (LP cx S8 n 166 0 8 k
                                    [(0,V.d (D.str s)),
                                      (6,
                                        V.sl 3
                                          (l ++
                                            [D.agg
                                                [D.int .i64 (2:Int),
                                                  D.str
                                                    (List.drop i.toNat
                                                      (List.take (IntKind.i64.wrap (i+zy s i)).toNat s)),
                                                  D.int .i64 i]])
                                          6),
                                      (7,V.d (D.int .i64 (IntKind.i64.wrap (i+zy s i))))]
                                    [(6,
                                        Ob.tok
                                          (l.length +
                                            [D.agg
                                                  [D.int .i64 (2:Int),
                                                    D.str
                                                      (List.drop i.toNat
                                                        (List.take (IntKind.i64.wrap (i+zy s i)).toNat s)),
                                                    D.int .i64 i]].length))]
                                    (AK cx S8 n 166 0 8 (EK cx 166 0)))))))
              else
                za (decide (0≤i)&&decide (i<(↑s.length:Int)))
                  (zd s[i.toNat]? λ b=>
                    bif Sp.letter (↑b.toNat:Int) then
                      LP cx S8 n 166 0 18 n
                        [(0,V.d (D.str s)),(6,V.sl 3 l 6),(7,V.d (D.int .i64 i)),
                          (8,V.d (D.int .i64 i)),(9,V.d (D.int .i64 (1:Int)))]
                        [(6,Ob.tok l.length)]
                        (AL cx S8 n 166 0 8 18 (inK cx S8 n 166 0 8 k (AK cx S8 n 166 0 8 (EK cx 166 0))))
                    else
                      za (decide (s.length≤big)&&(decide (0≤i)&&decide (i<(↑s.length:Int))))
                        (bif decide (IntKind.i64.wrap (i+zy s i)=i) then
                          some
                            (Out.ret
                                (V.tup
                                  [V.d (D.sl 3 []),V.d (D.int .i64 i),V.d (D.int .i64 (61:Int))]),
                              [])
                        else
                          za
                            (decide (0≤IntKind.i64.wrap (i+zy s i)) &&
                              decide (IntKind.i64.wrap (i+zy s i)≤(↑s.length:Int)))
                            (za (decide (0≤i)&&decide (i≤(↑(IntKind.i64.wrap (i+zy s i)).toNat:Int)))
                              (za
                                (decide (l.length=l.length) &&
                                  decide
                                    (l.length +
                                        [D.agg
                                              [D.int .i64 (2:Int),
                                                D.str
                                                  (List.drop i.toNat
                                                    (List.take (IntKind.i64.wrap (i+zy s i)).toNat s)),
                                                D.int .i64 i]].length ≤
                                      4294967296))
                                (LP cx S8 n 166 0 8 k
                                  [(0,V.d (D.str s)),
                                    (6,
                                      V.sl 3
                                        (l ++
                                          [D.agg
                                              [D.int .i64 (2:Int),
                                                D.str
                                                  (List.drop i.toNat
                                                    (List.take (IntKind.i64.wrap (i+zy s i)).toNat s)),
                                                D.int .i64 i]])
                                        6),
                                    (7,V.d (D.int .i64 (IntKind.i64.wrap (i+zy s i))))]
                                  [(6,
                                      Ob.tok
                                        (l.length +
                                          [D.agg
                                                [D.int .i64 (2:Int),
                                                  D.str
                                                    (List.drop i.toNat
                                                      (List.take (IntKind.i64.wrap (i+zy s i)).toNat s)),
                                                  D.int .i64 i]].length))]
                                  (AK cx S8 n 166 0 8 (EK cx 166 0)))))))))
  else
    za
      (decide (l.length=l.length) &&
        decide
          (l.length+[D.agg [D.int .i64 (0:Int),D.str [],D.int .i64 (↑s.length:Int)]].length ≤
            4294967296))
      (some
        (Out.ret
            (V.tup
              [V.d
                  (D.sl 3
                    (l++[D.agg [D.int .i64 (0:Int),D.str [],D.int .i64 (↑s.length:Int)]])),
                V.d (D.int .i64 (0:Int)),V.d (D.int .i64 (0:Int))]),
          [])):=by kernel_rfl
theorem l8c(n k k':Nat)(s:List UInt8)(i:Int)(l:List D) :
    LP cx S8 n 166 0 12 (k+1) [(0,.d (.str s)),(6,.sl 3 l 6),(7,.d (.int .i64 i))] [(6,.tok l.length)] (AL cx S8 n 166 0 8 12 (inK cx S8 n 166 0 8 k' (AK cx S8 n 166 0 8 (EK cx 166 0)))) =
  bif decide (i<(↑s.length:Int)) then
    za (decide (0≤i)&&decide (i<(↑s.length:Int)))
      (zd s[i.toNat]? λ b=>
        bif !decide ((↑b.toNat:Int)=(10:Int)) then
          LP cx S8 n 166 0 12 k
            [(0,V.d (D.str s)),(6,V.sl 3 l 6),(7,V.d (D.int .i64 (IntKind.i64.wrap (i+(1:Int)))))]
            [(6,Ob.tok l.length)] (AL cx S8 n 166 0 8 12 (inK cx S8 n 166 0 8 k' (AK cx S8 n 166 0 8 (EK cx 166 0))))
        else
          LP cx S8 n 166 0 8 k' [(0,V.d (D.str s)),(6,V.sl 3 l 6),(7,V.d (D.int .i64 i))]
            [(6,Ob.tok l.length)] (AK cx S8 n 166 0 8 (EK cx 166 0)))
  else
    LP cx S8 n 166 0 8 k' [(0,V.d (D.str s)),(6,V.sl 3 l 6),(7,V.d (D.int .i64 i))] [(6,Ob.tok l.length)]
      (AK cx S8 n 166 0 8 (EK cx 166 0)):=by kernel_rfl
theorem l8n(n k k':Nat)(s:List UInt8)(i e:Int)(l:List D) :
    LP cx S8 n 166 0 18 (k+1) [(0,.d (.str s)),(6,.sl 3 l 6),(7,.d (.int .i64 i)),(8,.d (.int .i64 e)),(9,.d (.int .i64 1))] [(6,.tok l.length)] (AL cx S8 n 166 0 8 18 (inK cx S8 n 166 0 8 k' (AK cx S8 n 166 0 8 (EK cx 166 0)))) =
  bif decide (e<(↑s.length:Int)) then
    za (decide (0≤e)&&decide (e<(↑s.length:Int)))
      (zd s[e.toNat]? λ b=>
        bif Sp.letter (↑b.toNat:Int) then
          LP cx S8 n 166 0 18 k
            [(0,V.d (D.str s)),(6,V.sl 3 l 6),(7,V.d (D.int .i64 i)),
              (8,V.d (D.int .i64 (IntKind.i64.wrap (e+(1:Int))))),
              (9,V.d (D.int .i64 (1:Int)))]
            [(6,Ob.tok l.length)] (AL cx S8 n 166 0 8 18 (inK cx S8 n 166 0 8 k' (AK cx S8 n 166 0 8 (EK cx 166 0))))
        else
          za (decide (0≤e)&&decide (e<(↑s.length:Int)))
            (zd s[e.toNat]? λ b=>
              bif Sp.digit (↑b.toNat:Int) then
                LP cx S8 n 166 0 18 k
                  [(0,V.d (D.str s)),(6,V.sl 3 l 6),(7,V.d (D.int .i64 i)),
                    (8,V.d (D.int .i64 (IntKind.i64.wrap (e+(1:Int))))),
                    (9,V.d (D.int .i64 (1:Int)))]
                  [(6,Ob.tok l.length)] (AL cx S8 n 166 0 8 18 (inK cx S8 n 166 0 8 k' (AK cx S8 n 166 0 8 (EK cx 166 0))))
              else
                bif decide (e=i) then
                  some
                    (Out.ret
                        (V.tup [V.d (D.sl 3 []),V.d (D.int .i64 i),V.d (D.int .i64 (61:Int))]),
                      [])
                else
                  za (decide (0≤e)&&decide (e≤(↑s.length:Int)))
                    (za (decide (0≤i)&&decide (i≤(↑e.toNat:Int)))
                      (za
                        (decide (l.length=l.length) &&
                          decide
                            (l.length +
                                [D.agg
                                      [D.int .i64 (1:Int),D.str (List.drop i.toNat (List.take e.toNat s)),
                                        D.int .i64 i]].length ≤
                              4294967296))
                        (LP cx S8 n 166 0 8 k'
                          [(0,V.d (D.str s)),
                            (6,
                              V.sl 3
                                (l ++
                                  [D.agg
                                      [D.int .i64 (1:Int),D.str (List.drop i.toNat (List.take e.toNat s)),
                                        D.int .i64 i]])
                                6),
                            (7,V.d (D.int .i64 e))]
                          [(6,
                              Ob.tok
                                (l.length +
                                  [D.agg
                                        [D.int .i64 (1:Int),
                                          D.str (List.drop i.toNat (List.take e.toNat s)),
                                          D.int .i64 i]].length))]
                          (AK cx S8 n 166 0 8 (EK cx 166 0)))))))
  else
    bif decide (e=i) then
      some (Out.ret (V.tup [V.d (D.sl 3 []),V.d (D.int .i64 i),V.d (D.int .i64 (61:Int))]),[])
    else
      za (decide (0≤e)&&decide (e≤(↑s.length:Int)))
        (za (decide (0≤i)&&decide (i≤(↑e.toNat:Int)))
          (za
            (decide (l.length=l.length) &&
              decide
                (l.length +
                    [D.agg
                          [D.int .i64 (1:Int),D.str (List.drop i.toNat (List.take e.toNat s)),
                            D.int .i64 i]].length ≤
                  4294967296))
            (LP cx S8 n 166 0 8 k'
              [(0,V.d (D.str s)),
                (6,
                  V.sl 3
                    (l ++
                      [D.agg
                          [D.int .i64 (1:Int),D.str (List.drop i.toNat (List.take e.toNat s)),
                            D.int .i64 i]])
                    6),
                (7,V.d (D.int .i64 e))]
              [(6,
                  Ob.tok
                    (l.length +
                      [D.agg
                            [D.int .i64 (1:Int),D.str (List.drop i.toNat (List.take e.toNat s)),
                              D.int .i64 i]].length))]
              (AK cx S8 n 166 0 8 (EK cx 166 0))))):=by kernel_rfl
abbrev fr8(s:List UInt8)(j:Nat)(l:List D):Fr:=[(0,.d (.str s)),(6,.sl 3 l 6),(7,.d (.int .i64 (j:Int)))]
abbrev L8 (n k:Nat) (s:List UInt8) (j:Nat) (l:List D):Option (Out×St):=LP cx S8 n 166 0 8 k (fr8 s j l) [(6,.tok l.length)] (AK cx S8 n 166 0 8 (EK cx 166 0))
theorem zx7{s:List UInt8}(hs:s.length≤65536)(n k':Nat)(l:List D):∀ (r:List UInt8) (j k:Nat),s.drop j=r→j≤s.length→r.length<k →
  ∃ j',LP cx S8 n 166 0 12 k (fr8 s j l) [(6,.tok l.length)] (AL cx S8 n 166 0 8 12 (inK cx S8 n 166 0 8 k' (AK cx S8 n 166 0 8 (EK cx 166 0))))=L8 n k' s j' l∧j≤j'∧j'≤s.length∧yn true r j=Sp.past s j'∧(∀ b r',r=b::r'→¬ (b.toNat:Int)=10→j<j')
 | _,_,0,_,_,hk=>by omega
 | [],j,k+1,hr,hj,_=>by
  have h1:=drop_nil hr;refine ⟨j,?_,Nat.le_refl _,hj,?_,λ b r' h=>by cases h⟩
  ·rw [l8c,pb (p:=(j:Int)<(s.length:Int)) (by omega)]; rfl
  ·unfold Sp.past; rw [hr]; rfl
 | b::r,j,k+1,hr,hj,hk=>by
  obtain ⟨h1,h2,h3⟩:=drop_cons hr;by_cases hb:(b.toNat:Int)=10
  ·refine ⟨j,?_,Nat.le_refl _,hj,?_,λ b' r' h hn=>by cases h; exact absurd hb hn⟩
   ·rw [l8c];simp only [pa (p:=(j:Int)<(s.length:Int)) (by omega),pa (p:=(0:Int)≤(j:Int)) (by omega),cond_true,Bool.and_self,za,pm,h2,zd,pa hb,Bool.not_true,cond_false]
   ·unfold Sp.past;rw [hr,yn,yn,pa hb,hb]; rfl
  ·obtain ⟨j',e1,e2,e3,e4,_⟩:=zx7 hs n k' l r (j+1) k h3 h1 (by simpa using hk)
   refine ⟨j',?_,by omega,e3,?_,λ _ _ _ _=>by omega⟩
   ·rw [l8c];simp only [pa (p:=(j:Int)<(s.length:Int)) (by omega),pa (p:=(0:Int)≤(j:Int)) (by omega),cond_true,Bool.and_self,za,pm,h2,zd,pb hb,Bool.not_false]
    rw [zpv (by omega)]
    exact e1
   ·rw [yn,pb hb]; exact e4
theorem zx6{s : List UInt8}{n k' j e : Nat}{l : List D}(hje : j < e)(he : e ≤ s.length)(hl : l.length ≤ 65536) :
    (bif decide ((e : Int) = (j : Int)) then
                  some
                    (Out.ret
                        (V.tup [V.d (D.sl 3 []), V.d (D.int .i64 (j : Int)), V.d (D.int .i64 (61 : Int))]),
                      [])
                else
                  za (decide (0 ≤ (e : Int)) && decide ((e : Int) ≤ (↑s.length : Int)))
                    (za (decide (0 ≤ (j : Int)) && decide ((j : Int) ≤ (e : Int)))
                      (za
                        (decide (l.length = l.length) &&
                          decide
                            (l.length +
                                [D.agg
                                      [D.int .i64 (1 : Int), D.str (List.drop j (List.take e s)),
                                        D.int .i64 (j : Int)]].length ≤
                              4294967296))
                        (LP cx S8 n 166 0 8 k'
                          [(0, V.d (D.str s)),
                            (6,
                              V.sl 3
                                (l ++
                                  [D.agg
                                      [D.int .i64 (1 : Int), D.str (List.drop j (List.take e s)),
                                        D.int .i64 (j : Int)]])
                                6),
                            (7, V.d (D.int .i64 (e : Int)))]
                          [(6,
                              Ob.tok
                                (l.length +
                                  [D.agg
                                        [D.int .i64 (1 : Int),
                                          D.str (List.drop j (List.take e s)),
                                          D.int .i64 (j : Int)]].length))]
                          (AK cx S8 n 166 0 8 (EK cx 166 0)))))) = L8 n k' s e (l ++ [zh5 1 ((s.drop j).take (e - j)) (j : Int)]) := by
  rw [List.drop_take]
  simp only [pb (p := (e : Int) = (j : Int)) (by omega), cond_false, za, pa (p := (0 : Int) ≤ (e : Int)) (by omega), pa (p := (e : Int) ≤ (s.length : Int)) (by omega),
    pa (p := (0 : Int) ≤ (j : Int)) (by omega), pa (p := (j : Int) ≤ (e : Int)) (by omega), Bool.and_self, cond_true, decide_true, List.length_singleton, pa (p := l.length + 1 ≤ 4294967296) (by omega)]
  unfold L8;rw [pe];rfl
theorem zx8{s:List UInt8}(hs:s.length≤65536)(n k' j:Nat){l:List D}(hl:l.length≤65536):∀ (r:List UInt8) (e k:Nat),s.drop e=r→j<e→e≤s.length→r.length<k →
  LP cx S8 n 166 0 18 k [(0,.d (.str s)),(6,.sl 3 l 6),(7,.d (.int .i64 (j:Int))),(8,.d (.int .i64 (e:Int))),(9,.d (.int .i64 1))] [(6,.tok l.length)] (AL cx S8 n 166 0 8 18 (inK cx S8 n 166 0 8 k' (AK cx S8 n 166 0 8 (EK cx 166 0)))) =
   L8 n k' s (j+xx r (e - j)) (l++[zh5 1 ((s.drop j).take (xx r (e - j))) (j:Int)])
 | _,_,0,_,_,_,hk=>by omega
 | [],e,k+1,hr,hje,he,_=>by
  have h1:=drop_nil hr;rw [l8n,pb (p:=(e:Int)<(s.length:Int)) (by omega),cond_false]
  refine (zx6 (n:=n) (k':=k') hje he hl).trans ?_;rw [xx,show j+(e - j)=e by omega]
 | b::r,e,k+1,hr,hje,he,hk=>by
  obtain ⟨h1,h2,h3⟩:=drop_cons hr;have ih:=zx8 hs n k' j hl r (e+1) k h3 (by omega) h1 (by simpa using hk)
  have hle:=zkw (b::r) (e - j);rw [l8n];simp only [pa (p:=(e:Int)<(s.length:Int)) (by omega),pa (p:=(0:Int)≤(e:Int)) (by omega),cond_true,Bool.and_self,za,pm,h2,zd,xx,pa (p:=0<e - j) (by omega),Bool.true_and]
  rw [zpv (by omega)]
  cases Sp.letter (b.toNat:Int)
  ·cases Sp.digit (b.toNat:Int)
   ·have st:=zx6 (n:=n) (k':=k') hje he hl;simp only [pa (p:=(0:Int)≤(e:Int)) (by omega),pa (p:=(e:Int)≤(s.length:Int)) (by omega),za,cond_true,Bool.and_self] at st
    simp only [cond_false,Bool.or_self,pa (p:=(e:Int)≤(s.length:Int)) (by omega),cond_true]
    rw [show j+(e - j)=e by omega]
    exact st
   ·simp only [cond_false,cond_true,Bool.or_true];rw [show e - j+1=e+1 - j by omega]; exact ih
  ·simp only [cond_true,Bool.true_or];rw [show e - j+1=e+1 - j by omega]; exact ih
def zji(r:List D×Int×Int):Option (Out×St):=some (.ret (.tup [.d (.sl 3 r.1),.d (.int .i64 r.2.1),.d (.int .i64 r.2.2)]),[])
def R8(n k : Nat)(s : List UInt8)(i : Int)(l : List D) : Option (Out × St) :=
                za (decide (0 ≤ i) && decide (i < (↑s.length : Int)))
                  (zd s[i.toNat]? λ b =>
                    bif Sp.letter (↑b.toNat : Int) then
                      LP cx S8 n 166 0 18 n
                        [(0, V.d (D.str s)), (6, V.sl 3 l 6), (7, V.d (D.int .i64 i)),
                          (8, V.d (D.int .i64 i)), (9, V.d (D.int .i64 (1 : Int)))]
                        [(6, Ob.tok l.length)]
                        (AL cx S8 n 166 0 8 18 (inK cx S8 n 166 0 8 k (AK cx S8 n 166 0 8 (EK cx 166 0))))
                    else
                      za (decide (s.length ≤ big) && (decide (0 ≤ i) && decide (i < (↑s.length : Int))))
                        (bif decide (IntKind.i64.wrap (i + zy s i) = i) then
                          some
                            (Out.ret
                                (V.tup
                                  [V.d (D.sl 3 []), V.d (D.int .i64 i), V.d (D.int .i64 (61 : Int))]),
                              [])
                        else
                          za
                            (decide (0 ≤ IntKind.i64.wrap (i + zy s i)) &&
                              decide (IntKind.i64.wrap (i + zy s i) ≤ (↑s.length : Int)))
                            (za (decide (0 ≤ i) && decide (i ≤ (↑(IntKind.i64.wrap (i + zy s i)).toNat : Int)))
                              (za
                                (decide (l.length = l.length) &&
                                  decide
                                    (l.length +
                                        [D.agg
                                              [D.int .i64 (2 : Int),
                                                D.str
                                                  (List.drop i.toNat
                                                    (List.take (IntKind.i64.wrap (i + zy s i)).toNat s)),
                                                D.int .i64 i]].length ≤
                                      4294967296))
                                (LP cx S8 n 166 0 8 k
                                  [(0, V.d (D.str s)),
                                    (6,
                                      V.sl 3
                                        (l ++
                                          [D.agg
                                              [D.int .i64 (2 : Int),
                                                D.str
                                                  (List.drop i.toNat
                                                    (List.take (IntKind.i64.wrap (i + zy s i)).toNat s)),
                                                D.int .i64 i]])
                                        6),
                                    (7, V.d (D.int .i64 (IntKind.i64.wrap (i + zy s i))))]
                                  [(6,
                                      Ob.tok
                                        (l.length +
                                          [D.agg
                                                [D.int .i64 (2 : Int),
                                                  D.str
                                                    (List.drop i.toNat
                                                      (List.take (IntKind.i64.wrap (i + zy s i)).toNat s)),
                                                  D.int .i64 i]].length))]
                                  (AK cx S8 n 166 0 8 (EK cx 166 0)))))))
theorem l8r(n k:Nat)(s:List UInt8)(i:Int)(l:List D) :
  LP cx S8 n 166 0 8 (k+1) [(0,.d (.str s)),(6,.sl 3 l 6),(7,.d (.int .i64 i))] [(6,.tok l.length)] (AK cx S8 n 166 0 8 (EK cx 166 0)) =
 bif decide (i<(↑s.length:Int)) then
  za (decide (0≤i)&&decide (i<(↑s.length:Int)))
   (zd s[i.toNat]? λ b=>
    bif Sp.blank (↑b.toNat:Int) then
     LP cx S8 n 166 0 8 k
      [(0,V.d (D.str s)),(6,V.sl 3 l 6),(7,V.d (D.int .i64 (IntKind.i64.wrap (i+(1:Int)))))]
      [(6,Ob.tok l.length)] (AK cx S8 n 166 0 8 (EK cx 166 0))
    else
     za (decide (0≤i)&&decide (i<(↑s.length:Int)))
      (zd s[i.toNat]? λ b=>
       bif decide ((↑b.toNat:Int)=(45:Int)) then
        bif decide (IntKind.i64.wrap (i+(1:Int))<(↑s.length:Int)) then
         za
          (decide (0≤IntKind.i64.wrap (i+(1:Int))) &&
           decide (IntKind.i64.wrap (i+(1:Int))<(↑s.length:Int)))
          (zd s[(IntKind.i64.wrap (i+(1:Int))).toNat]? λ b=>
           bif decide ((↑b.toNat:Int)=(45:Int)) then
            LP cx S8 n 166 0 12 n [(0,V.d (D.str s)),(6,V.sl 3 l 6),(7,V.d (D.int .i64 i))]
             [(6,Ob.tok l.length)]
             (AL cx S8 n 166 0 8 12 (inK cx S8 n 166 0 8 k (AK cx S8 n 166 0 8 (EK cx 166 0))))
           else R8 n k s i l)
        else R8 n k s i l
       else R8 n k s i l))
 else
  za
   (decide (l.length=l.length) &&
    decide
     (l.length+[D.agg [D.int .i64 (0:Int),D.str [],D.int .i64 (↑s.length:Int)]].length ≤
      4294967296))
   (some
    (Out.ret
      (V.tup
       [V.d
         (D.sl 3
          (l++[D.agg [D.int .i64 (0:Int),D.str [],D.int .i64 (↑s.length:Int)]])),
        V.d (D.int .i64 (0:Int)),V.d (D.int .i64 (0:Int))]),
     [])):=l8 n k s i l
theorem r8{s:List UInt8}(hs:s.length≤65536){n k j:Nat}(hn:s.length<n){l:List D}(hl:l.length≤65536){b:UInt8}{r:List UInt8}(hd:s.drop j=b::r) :
  R8 n k s (j:Int) l=bif decide ((Sp.one (s.drop j)).2=[]) then zji ([],j,61) else L8 n k s (j+(Sp.one (s.drop j)).2.length) (l++[zh5 (Sp.one (s.drop j)).1 (Sp.one (s.drop j)).2 (j:Int)]):=by
 obtain ⟨h1,h2,h3⟩:=drop_cons hd;have hlen:(b::r).length=s.length - j:=by rw [←hd]; simp
 unfold R8;simp only [pa (p:=(j:Int)<(s.length:Int)) (by omega),pa (p:=(0:Int)≤(j:Int)) (by omega),cond_true,Bool.and_self,za,pm,h2,zd]
 rw [hd];cases hb:Sp.letter (b.toNat:Int)
 ·have hnl:ye (b::r)=0:=by simp only [ye,xx,hb]; rfl
  have hone:Sp.one (b::r)=z6 (b::r) zcp:=by unfold Sp.one; rw [hnl]; rfl
  have hpre:=zxw (b::r);have hle:=zr1 (b::r);have hk:=zlm (b::r) zcp;have hsg:zy s (j:Int)=((Sp.one (b::r)).2.length:Int):=by unfold zy; rw [pm,hd,hone]
  rw [←hone] at hk;generalize Sp.one (b::r)=o at hpre hle hk hsg hone ⊢;simp only [cond_false,hsg,pa (p:=s.length≤big) (by simp [big]; omega),pa (p:=(j:Int)≤(s.length:Int)) (by omega),cond_true,Bool.and_self]
  rw [wrapN (x:=(j:Int)+(o.2.length:Int)) (by omega) (by omega),show (j:Int)+(o.2.length:Int)=((j+o.2.length:Nat):Int) by omega]
  simp only [pm];by_cases ho:o.2=[]
  ·rw [pa ho,pa (p:=((j+o.2.length:Nat):Int)=(j:Int)) (by rw [ho]; rfl)]; rfl
  ·have hpos:0<o.2.length:=List.length_pos_iff.2 ho;have hk2:o.1=2:=hk.resolve_left ho;rw [pb ho,pb (p:=((j+o.2.length:Nat):Int)=(j:Int)) (by omega),List.drop_take,show j+o.2.length - j=o.2.length by omega,hd,←hpre,hk2]
   simp only [pa (p:=(0:Int)≤((j+o.2.length:Nat):Int)) (by omega),pa (p:=((j+o.2.length:Nat):Int)≤(s.length:Int)) (by omega),pa (p:=(j:Int)≤((j+o.2.length:Nat):Int)) (by omega),
    cond_true,cond_false,Bool.and_self,List.length_singleton,pa (p:=l.length+1≤4294967296) (by omega)]
   unfold L8;rw [pe];rfl
 ·have hnl:ye (b::r)=xx r 1:=by simp only [ye,xx,hb,Bool.true_or,cond_true,Nat.zero_add]
  have hge:=zqj r 1;have hle:=zir (b::r);have hone:Sp.one (b::r)=(1,(b::r).take (ye (b::r))):=by unfold Sp.one; rw [pa (by omega)]; rfl
  have hl1:((b::r).take (ye (b::r))).length=ye (b::r):=by rw [List.length_take]; omega
  obtain ⟨n',hn'⟩:∃ i,n=i+1:=⟨n - 1,by omega⟩
  have st:=zx8 hs n k j hl r (j+1) n' h3 (by omega) h1 (by simp at hlen; omega)
  rw [show j+1 - j=1 by omega,hd,←hnl] at st
  rw [cond_true,hone];simp only [];rw [hl1,pb (p:=(b::r).take (ye (b::r))=[]) (by intro h; rw [h] at hl1; simp at hl1; omega),cond_false,←st]
  conv=>lhs; arg 7; rw [hn']
  rw [l8n];simp only [pa (p:=(j:Int)<(s.length:Int)) (by omega),pa (p:=(0:Int)≤(j:Int)) (by omega),cond_true,Bool.and_self,za,pm,h2,zd,hb]
  rw [zpv (by omega)]
theorem z1w{s:List UInt8}(hs:s.length≤65536){n:Nat}(hn:s.length<n):∀ (N j k f:Nat) (l:List D),s.length - j≤N→s.length - j<f→s.length - j<k→j≤s.length→l.length+(s.length - j)≤65536 →
  L8 n k s j l=zji (Sp.toks f s (Sp.past s j) l):=by
 intro N
 induction N with
 | zero=>
  intro j k f l hN hf hk hj hl;obtain ⟨k,rfl⟩:∃ i,k=i+1:=⟨k - 1,by omega⟩
  obtain ⟨f,rfl⟩:∃ i,f=i+1:=⟨f - 1,by omega⟩
  have hb:=qq (s:=s) hj;have hll:decide (l.length=l.length)=true:=pa rfl;unfold L8;rw [l8r];simp only [pb (p:=(j:Int)<(s.length:Int)) (by omega),cond_false,Sp.toks,pb (p:=Sp.past s j<s.length) (by omega),hll,Bool.true_and,za,List.length_singleton,pa (p:=l.length+1≤4294967296) (by omega),cond_true]
  rfl
 | succ N ih=>
  intro j k f l hN hf hk hj hl;by_cases hlt:s.length - j≤N
  ·exact ih j k f l hlt hf hk hj hl
  obtain ⟨k,rfl⟩:∃ i,k=i+1:=⟨k - 1,by omega⟩
  cases hd:s.drop j with
  | nil=>have:=drop_nil hd; omega
  | cons b r=>
   obtain ⟨h1,h2,h3⟩:=drop_cons hd;have hlen:(b::r).length=s.length - j:=by rw [←hd]; simp
   unfold L8;rw [l8r];simp only [pa (p:=(j:Int)<(s.length:Int)) (by omega),pa (p:=(0:Int)≤(j:Int)) (by omega),cond_true,Bool.and_self,za,pm,h2,zd]
   rw [zpv (by omega)]
   cases hb:Sp.blank (b.toNat:Int)
   ·-- a token,or a comment
    have tok:∀ (hp:Sp.past s j=j),R8 n k s (j:Int) l=zji (Sp.toks f s (Sp.past s j) l):=by
     intro hp;obtain ⟨f,rfl⟩:∃ i,f=i+1:=⟨f - 1,by omega⟩
     rw [r8 hs hn (by omega) hd,hp,Sp.toks,pa h1,cond_true]
     have hle:=zr1 (s.drop j);rw [List.length_drop] at hle;by_cases ho:(Sp.one (s.drop j)).2=[]
     ·rw [pa ho]; rfl
     ·have hpos:0<(Sp.one (s.drop j)).2.length:=List.length_pos_iff.2 ho;rw [pb ho,cond_false,cond_false];exact ih _ k f _ (by omega) (by omega) (by omega) (by omega) (by simp; omega)
    have hpast:Sp.past s j=bif decide ((b.toNat:Int)=45)&&zm (b::r) [45,45] then yn true r (j+1) else j:=by
     unfold Sp.past; rw [hd,yn,hb]; rfl
    simp only [cond_false];by_cases h45:(b.toNat:Int)=45
    ·rw [pa h45,Bool.true_and] at hpast;have hb45:b=45:=UInt8.toNat_inj.1 (by simp; omega)
     rw [pa h45,cond_true];cases r with
     | nil=>
      rw [pb (p:=((j+1:Nat):Int)<(s.length:Int)) (by simp at hlen; omega),cond_false]
      refine tok (hpast.trans ?_);rw [show zm [b] [45,45]=false by simp [zm]]; rfl
     | cons c r=>
      obtain ⟨h4,h5,h6⟩:=drop_cons h3;simp only [pa (p:=((j+1:Nat):Int)<(s.length:Int)) (by omega),pa (p:=(0:Int)≤((j+1:Nat):Int)) (by omega),cond_true,Bool.and_self,pm,h5]
      by_cases hc:(c.toNat:Int)=45
      ·have hc45:c=45:=UInt8.toNat_inj.1 (by simp; omega)
       rw [show zm (b::c::r) [45,45]=true by simp [zm,hb45,hc45],cond_true] at hpast
       rw [pa hc,cond_true];obtain ⟨j',e1,e2,e3,e4,e5⟩:=zx7 hs n k l (b::c::r) j n hd hj (by omega)
       rw [yn,pb (by omega)] at e4
       have hjj:=e5 b (c::r) rfl (by omega)
       refine e1.trans ?_;rw [hpast];refine (ih j' k f l (by omega) (by omega) (by omega) e3 (by omega)).trans ?_
       rw [←e4]; rfl
      ·rw [pb hc,cond_false];refine tok (hpast.trans ?_);rw [show zm (b::c::r) [45,45]=false by
        simp only [zm,List.length_cons,List.length_nil,List.take]; exact pb λ h=>by simp at h; exact hc (by rw [h.2]; rfl)]
       rfl
    ·rw [pb h45,Bool.false_and] at hpast;rw [pb h45,cond_false];exact tok hpast
   ·have hpast:Sp.past s j=Sp.past s (j+1):=by
     unfold Sp.past; rw [hd,yn,hb,h3]; rfl
    rw [cond_true,hpast];exact ih (j+1) k f l (by omega) (by omega) (by omega) h1 (by omega)
theorem yb0(s:List UInt8)(hb:s.length≤big):zh cx 166 [.d (.str s)] []=zji (Sp.scan s):=by
 unfold Sp.scan;refine xl (N:=s.length+1) z33 ?_;rw [b8];by_cases h:65536<s.length
 ·rw [pa h,cond_true,pa (p:=(65536:Int)<(s.length:Int)) (by omega)]
  rfl
 ·rw [pb h,cond_false,pb (p:=(65536:Int)<(s.length:Int)) (by omega),pa hb]
  simp only [cond_false,za,cond_true];unfold zmo;cases wk s.length s 0 with
  | none=>
   have hr:=z1w (s:=s) (by omega) (n:=s.length+1) (by omega) s.length 0 (s.length+1) (s.length+1) [] (by omega) (by omega) (by omega) (by omega) (by simp; omega)
   simp only [pb (p:=(0:Int)≤-1) (by omega),cond_false]
   exact hr
  | some p=>
   simp only [pa (p:=(0:Int)≤(p:Int)) (by omega)]
   rw [cond_true]
inductive T where
 | mk (k:Int) (nm:List UInt8) (kids:List T) (nms:List (List UInt8)) (pl:Int)
def T.k:T→Int | .mk k _ _ _ _=>k
def T.nm:T→List UInt8 | .mk _ n _ _ _=>n
def T.kids:T→List T | .mk _ _ l _ _=>l
def T.nms:T→List (List UInt8) | .mk _ _ _ l _=>l
def T.pl:T→Int | .mk _ _ _ _ a=>a
instance:Inhabited T:=⟨.mk 0 [] [] [] 0⟩
mutual
def T.d:T→D
 | .mk k nm kids nms pl=>.agg [.int .i64 k,.str nm,.sl 5 (T.ds kids),.sl 1 (nms.map .str),.int .i64 pl]
def T.ds:List T→List D
 | []=>[]
 | t::l=>t.d::T.ds l
end
mutual
def T.depth:T→Nat | .mk _ _ kids _ _=>T.depths kids+1
def T.depths:List T→Nat | []=>0 | t::l=>max t.depth (T.depths l)
end
theorem z3b(l:List T):T.ds l=l.map T.d:=by
 induction l with
 | nil=>rfl
 | cons t l ih=>simp only [T.ds,ih,List.map_cons]
theorem ya(l:List T):(T.ds l).length=l.length:=by rw [z3b,pf]
theorem zk8{t:T}:∀ {l:List T},t∈l→t.depth≤T.depths l
 | u::l,h=>by
  simp only [T.depths];cases h with
  | head=>omega
  | tail _ h=>have:=zk8 h; omega
def strs:List D→Option (List (List UInt8))
 | []=>some []
 | .str s::r=>(match strs r with | some l=>some (s::l) | none=>none)
 | _::_=>none
theorem ztg(l:List (List UInt8)):strs (l.map .str)=some l:=by
 induction l with
 | nil=>rfl
 | cons s l ih=>simp only [List.map_cons,strs,ih]
theorem zhi:∀ {l:List D} {m},strs l=some m→l=m.map .str
 | [],m,h=>by cases h; rfl
 | x::r,m,h=>by
  unfold strs at h;split at h
  ·rename_i he; cases he
  ·rename_i s q he;cases he;split at h
   ·rename_i l hl; cases h; rw [zhi hl]; rfl
   ·cases h
  ·cases h
def yj{α:Type}(l:List α):Bool:=decide (l.length<4294967296)
def toL(f:D→Option T):List D→Option (List T)
 | []=>some []
 | x::r=>(match f x,toL f r with | some t,some l=>some (t::l) | _,_=>none)
def zi:Nat→D→Option T
 | 0,_=>none
 | n+1,.agg [.int .i64 k,.str nm,.sl 5 l,.sl 1 ns,.int .i64 pl]=>
  bif yj nm&&yj l&&yj ns then (match toL (zi n) l,strs ns with | some kids,some nms=>bif nms.all yj then some (.mk k nm kids nms pl) else none | _,_=>none) else none
 | _,_=>none
theorem ztb{f:D→Option T}:∀ {l:List D} {m},toL f l=some m→l.length=m.length∧∀ (i:Nat) x t,l[i]?=some x→m[i]?=some t→f x=some t
 | [],m,h=>by cases h; exact ⟨rfl,λ i x t h=>by simp at h⟩
 | x::r,m,h=>by
  unfold toL at h;split at h
  ·rename_i t l ht hl;cases h;obtain ⟨h1,h2⟩:=ztb hl;refine ⟨by simp [h1],λ i y u hy hu=>?_⟩
   cases i with
   | zero=>simp at hy hu; subst hy; subst hu; exact ht
   | succ i=>exact h2 i y u (by simpa using hy) (by simpa using hu)
  ·cases h
mutual
def T.ok:T→Bool
 | .mk _ nm kids nms _=>yj nm&&yj kids&&yj nms&&nms.all yj&&T.oks kids
def T.oks:List T→Bool
 | []=>true
 | t::l=>t.ok&&T.oks l
end
theorem qm{t:T}:∀ {l:List T},T.oks l=true→t∈l→t.ok=true
 | u::l,h,hm=>by
  simp only [T.oks,ph] at h;cases hm with
  | head=>exact h.1
  | tail _ hm=>exact qm h.2 hm
theorem y7:∀ {n:Nat} {x:D} {t:T},zi n x=some t→x=t.d∧t.depth≤n∧t.ok=true
 | 0,x,t,h=>by cases h
 | n+1,x,t,h=>by
  unfold zi at h;split at h
  ·rename_i he; cases he
  ·rename_i m k nm l ns pl he;cases he;cases hc:(yj nm&&yj l&&yj ns)
   ·rw [hc] at h; cases h
   ·rw [hc,cond_true] at h;split at h
    ·rename_i kids nms hk hn;cases hs:nms.all yj
     ·rw [hs] at h; cases h
     ·rw [hs,cond_true] at h;cases h;obtain ⟨h1,h2⟩:=ztb hk;simp only [ph] at hc;have key:∀ (l:List D) (m:List T),l.length=m.length→(∀ (i:Nat) x t,l[i]?=some x→m[i]?=some t→zi n x=some t)→l=T.ds m∧T.depths m≤n∧T.oks m=true:=by
       intro l
       induction l with
       | nil=>intro m hl _; cases m with | nil=>exact ⟨rfl,by simp [T.depths],rfl⟩ | cons=>simp at hl
       | cons x r ih=>
        intro m hl hx;cases m with
        | nil=>simp at hl
        | cons t m=>
         obtain ⟨a1,a2,a3⟩:=y7 (hx 0 x t rfl rfl);obtain ⟨b1,b2,b3⟩:=ih m (by simpa using hl) λ i y u hy hu=>hx (i+1) y u (by simpa using hy) (by simpa using hu)
         exact ⟨by rw [a1,b1]; rfl,by simp only [T.depths]; omega,by simp only [T.oks,a3,b3]; rfl⟩
      obtain ⟨c1,c2,c3⟩:=key l kids h1 h2;refine ⟨by rw [c1,zhi hn]; rfl,by simp only [T.depth]; omega,?_⟩
      simp only [T.ok,hc.1.1,hs,c3,Bool.and_true,Bool.true_and,ph];refine ⟨?_,?_⟩
      ·have:=hc.1.2; unfold yj at this ⊢; rwa [h1] at this
      ·have:=hc.2; unfold yj at this ⊢; rwa [zhi hn,pf] at this
    ·cases h
  ·cases h
theorem zd8:∀ {n:Nat} {t:T},t.depth≤n→t.ok=true→zi n t.d=some t
 | 0,.mk ..,h,_=>by simp [T.depth] at h
 | n+1,.mk k nm kids nms pl,h,hok=>by
  simp only [T.ok,ph] at hok;have key:∀ m:List T,T.depths m≤n→T.oks m=true→toL (zi n) (T.ds m)=some m:=by
   intro m
   induction m with
   | nil=>intro _ _; rfl
   | cons t m ih=>
    intro hd ho;simp only [T.depths] at hd;simp only [T.oks,ph] at ho;simp only [T.ds,toL,zd8 (n:=n) (t:=t) (by omega) ho.1,ih (by omega) ho.2]
  simp only [T.depth] at h;simp only [T.d,zi,ztg,key kids (by omega) hok.2]
  have e1:yj (T.ds kids)=true:=by have:=hok.1.1.1.2; unfold yj at this ⊢; rwa [ya]
  have e2:yj (nms.map D.str)=true:=by have:=hok.1.1.2; unfold yj at this ⊢; rwa [pf]
  rw [hok.1.1.1.1,e1,e2,hok.1.2];rfl
theorem yv{R:Type}{l:List T}{i:Nat}{K:D→Option R}:ze (T.ds l) i K=zd l[i]? λ t=>K t.d:=by
 unfold ze;rw [z3b,List.getElem?_map];cases l[i]? <;> rfl
theorem xk(t:T):t.d.cells=[.int .i64 t.k,.str t.nm,.sl 5 (T.ds t.kids),.sl 1 (t.nms.map .str),.int .i64 t.pl]:=by cases t; rfl
theorem zbk(t:T):D.agg [.int .i64 t.k,.str t.nm,.sl 5 (T.ds t.kids),.sl 1 (t.nms.map .str),.int .i64 t.pl]=t.d:=by cases t; rfl
theorem zv8{k nm kids nms pl}:(T.mk k nm kids nms pl).k=k:=rfl
theorem zxz{k nm kids nms pl}:(T.mk k nm kids nms pl).nm=nm:=rfl
theorem zfw{k nm kids nms pl}:(T.mk k nm kids nms pl).kids=kids:=rfl
theorem zr4{k nm kids nms pl}:(T.mk k nm kids nms pl).nms=nms:=rfl
theorem vm{R:Type}{a:D}{l:List D}{K:D→Option R}:ze (a::l) 0 K=K a:=rfl
theorem zcj{R:Type}{a b:D}{l:List D}{K:D→Option R}:ze (a::b::l) 1 K=K b:=rfl
theorem zci{R:Type}{a b c:D}{l:List D}{K:D→Option R}:ze (a::b::c::l) 2 K=K c:=rfl
theorem zch{R:Type}{a b c d:D}{l:List D}{K:D→Option R}:ze (a::b::c::d::l) 3 K=K d:=rfl
theorem zcg{R:Type}{a b c d e:D}{l:List D}{K:D→Option R}:ze (a::b::c::d::e::l) 4 K=K e:=rfl
theorem qg{R:Type}{l:List (List UInt8)}{i:Nat}{K:D→Option R}:ze (l.map D.str) i K=zd l[i]? λ t=>K (.str t):=by
 unfold ze;rw [List.getElem?_map];cases l[i]? <;> rfl
def zx{α β:Type}(f:Nat)(dec:List V→Option α)(sp:α→Option β)(mk:β→V)(S:CK R1):CK R1 where
 S:=λ g args σ=>bif Nat.beq g f&&σ.isEmpty then zd (dec args) λ q=>zd (sp q) λ b=>some (.ret (mk b),[]) else S.S g args σ
 run:=λ g args σ K=>bif Nat.beq g f&&σ.isEmpty then zd (dec args) λ q=>zd (sp q) λ b=>K (.ret (mk b)) [] else S.run g args σ K
 ok:=λ g a σ K=>by
  show _=zm8 _ K;rw [x7,vl];cases Nat.beq g f&&σ.isEmpty
  ·exact S.ok g a σ K
  ·simp only [cond_true,vl];rfl
theorem zj{α β:Type}{f:Nat}{dec:List V→Option α}{sp:α→Option β}{mk:β→V}{S:CK R1}(hS:knows cx S.S (zh cx))
  (hf:∀ a q b,cx.dom f a=true→dec a=some q→sp q=some b→zh cx f a []=some (.ret (mk b),[])):knows cx (zx f dec sp mk S).S (zh cx):=by
 intro g args σ r hd h;simp only [zx] at h;cases hg:(Nat.beq g f&&σ.isEmpty) <;> rw [hg] at h
 ·exact hS g args σ r hd h
 ·rw [ph] at hg;obtain rfl:=pg hg.1;obtain rfl:=List.isEmpty_iff.1 hg.2;simp only [cond_true] at h;obtain ⟨q,hq,h⟩:=zb h;obtain ⟨b,hb,h⟩:=zb h;cases h;exact hf args q b hd hq hb
def K13:CK R1:=more 63 z3o zzp z41 (CK.plain zo)
theorem z05:knows cx K13.S (zh cx):=wi zq z66
def z6w(s:List UInt8):V:=.tup [.d (.sl 3 (wg s)),.d (.int .i64 (zs1 s)),.d (.int .i64 (zb4 s))]
def mkB(b:Bool):V:=.d (.bool b)
def mkI(i:Int):V:=.d (.int .i64 i)
def mkS(s:List UInt8):V:=.d (.str s)
def zb1:List V→Option (List UInt8) | [.d (.str s)]=>some s | _=>none
def K73:CK R1:=zx 166 zb1 some z6w (CK.plain zo)
theorem qx{a:List V}{s}(h:zb1 a=some s):a=[.d (.str s)]:=by
 unfold zb1 at h; split at h <;> cases h; rfl
theorem z0t:knows cx K73.S (zh cx):=zj zq λ a q b hd h hb=>by
 cases hb;obtain rfl:=qx h;exact yb0 q (pc hd)
theorem g36(n:Nat)(s:List UInt8) :
    zk cx K13 n 126 [.d (.str s)] [] =
  za (decide (s.length≤big))
    (bif decide (zb4 s=0) then
      bif decide ((↑(wg s).length:Int)=(2:Int)) then
        za (decide ((0:Int)<(↑(wg s).length:Int)))
          (ze (wg s) (0:Int).toNat λ y=>
            ze y.cells 0 λ c=>
              match c with
              | D.int k' n=>
                bif decide (k'=IntKind.i64) then
                  bif decide (n=(1:Int)) then
                    za (decide ((0:Int)<(↑(wg s).length:Int)))
                      (ze (wg s) (0:Int).toNat λ y=>
                        ze y.cells 1 λ c=>
                          match c with
                          | D.str s_1=>some (Out.ret (V.d (D.bool (decide (s_1=s)))),[])
                          | x=>none)
                  else some (Out.ret (V.d (D.bool false)),[])
                else none
              | x=>none)
      else some (Out.ret (V.d (D.bool false)),[])
    else
      bif decide (zb4 s=(0:Int)) then some (Out.ret (V.d (D.bool false)),[])
      else some (Out.ret (V.d (D.bool false)),[])):=by kernel_rfl
theorem g41(n:Nat)(s:List UInt8) :
    zk cx K73 n 133 [.d (.str s)] [] =
  za (decide (s.length≤big))
    (bif decide (zb4 s=(0:Int)) then
      bif decide ((↑(wg s).length:Int)=(2:Int)) then
        za (decide ((0:Int)<(↑(wg s).length:Int)))
          (ze (wg s) (0:Int).toNat λ y=>
            ze y.cells 0 λ c=>
              match c with
              | D.int k' n=>
                bif decide (k'=IntKind.i64) then
                  bif decide (n=(1:Int)) then
                    za (decide ((0:Int)<(↑(wg s).length:Int)))
                      (ze (wg s) (0:Int).toNat λ y=>
                        ze y.cells 1 λ c=>
                          match c with
                          | D.str s_1=>some (Out.ret (V.d (D.bool (decide (s_1=s)))),[])
                          | x=>none)
                  else some (Out.ret (V.d (D.bool false)),[])
                else none
              | x=>none)
      else some (Out.ret (V.d (D.bool false)),[])
    else some (Out.ret (V.d (D.bool false)),[])):=by kernel_rfl
def z0i(s:List UInt8):D→Bool | .agg [.int .i64 k,.str t,.int .i64 _]=>decide (k=1)&&decide (t=s) | _=>false
def Sp.named(s:List UInt8):Bool:=decide (zb4 s=0)&&(match wg s with | [x,_]=>z0i s x | _=>false)
theorem zxq{s:List UInt8}(h:zb4 s=0)(h2:(wg s).length=2):∃ k t a y,wg s=[zh5 k t a,y]:=by
 rcases zkl s with ⟨_,_,l,hl,hc⟩ | ⟨h1,_⟩
 ·have e:wg s=l:=by unfold wg; rw [hl]
  rw [e] at h2 ⊢;cases hc with
  | fin _ _=>simp at h2
  | tok _ _ _ _ _ h=>
   cases h with
   | fin _ _=>exact ⟨_,_,_,_,rfl⟩
   | tok _ _ _ _ _ h=>have:=h.ne; simp only [List.length_cons] at h2; omega
 ·exact absurd h h1
theorem ztz{s:List UInt8}(h2:(wg s).length ≠ 2):Sp.named s=false:=by
 unfold Sp.named;split
 ·rename_i x y h; rw [h] at h2; simp at h2
 ·simp
theorem z2g(s:List UInt8)(hs:s.length≤big):zh cx 126 [.d (.str s)] []=some (.ret (.d (.bool (Sp.named s))),[]):=by
 refine zl z05 (N:=0) ?_;rw [g36,pa hs];by_cases h:zb4 s=0
 ·rw [pa h];by_cases h2:(wg s).length=2
  ·obtain ⟨k,t,a,y,hl⟩:=zxq h h2;have e:Sp.named s=(decide (k=1)&&decide (t=s)):=by unfold Sp.named; rw [h,hl]; rfl
   rw [e,hl];show (bif decide (k=1) then _ else _)=_;cases decide (k=1) <;> rfl
  ·rw [ztz h2,pb (p:=((wg s).length:Int)=2) (by omega)]
   rfl
 ·have e:Sp.named s=false:=by unfold Sp.named; rw [pb h]; rfl
  rw [pb h,e];rfl
theorem z9k(s:List UInt8)(hs:s.length≤big):zh cx 133 [.d (.str s)] []=some (.ret (.d (.bool (Sp.named s))),[]):=by
 refine zl z0t (N:=0) ?_;rw [g41,pa hs];by_cases h:zb4 s=0
 ·rw [pa h];by_cases h2:(wg s).length=2
  ·obtain ⟨k,t,a,y,hl⟩:=zxq h h2;have e:Sp.named s=(decide (k=1)&&decide (t=s)):=by unfold Sp.named; rw [h,hl]; rfl
   rw [e,hl];show (bif decide (k=1) then _ else _)=_;cases decide (k=1) <;> rfl
  ·rw [ztz h2,pb (p:=((wg s).length:Int)=2) (by omega)]
   rfl
 ·have e:Sp.named s=false:=by unfold Sp.named; rw [pb h]; rfl
  rw [pb h,e];rfl
def K1:CK R1:=zx 126 zb1 (λ s=>some (Sp.named s)) mkB (zx 170 zb1 (λ s=>some (!Sp.named s)) mkB (zx 133 zb1 (λ s=>some (Sp.named s)) mkB (CK.plain zo)))
theorem g85(n:Nat)(s:List UInt8) :
    zk cx (zx 126 zb1 (λ s=>some (Sp.named s)) mkB (CK.plain zo)) n 170 [.d (.str s)] [] =
  za (decide (s.length≤big)) (some (Out.ret (V.d (D.bool (!Sp.named s))),[])):=by kernel_rfl
theorem zvg:knows cx K1.S (zh cx):=by
 have h0:knows cx (CK.plain (R:=R1) zo).S (zh cx):=zq;have h41:=zj (f:=133) (dec:=zb1) (sp:=λ s=>some (Sp.named s)) (mk:=mkB) h0 λ a q b hd h hb=>by
  cases hb; obtain rfl:=qx h; exact z9k q (pc hd)
 have h36:=zj (f:=126) (dec:=zb1) (sp:=λ s=>some (Sp.named s)) (mk:=mkB) h0 λ a q b hd h hb=>by
  cases hb; obtain rfl:=qx h; exact z2g q (pc hd)
 have h85:=zj (f:=170) (dec:=zb1) (sp:=λ s=>some (!Sp.named s)) (mk:=mkB) h41 λ a q b hd h hb=>by
  cases hb; obtain rfl:=qx h;refine zl h36 (N:=0) ?_;rw [g85,pa (pc hd)];rfl
 exact zj h85 λ a q b hd h hb=>by
  cases hb; obtain rfl:=qx h; exact z2g q (pc hd)
def y0{α:Type}(p:α→Bool):List α→Nat→Option Nat
 | [],_=>none
 | x::r,j=>bif p x then some j else y0 p r (j+1)
def xo{α:Type}(p:α→Bool)(l:List α):Int:=match y0 p l 0 with | some j=>(j:Int) | none=>-1
theorem ze6{α:Type}{p:α→Bool}:∀ (l:List α) (j:Nat),(y0 p l j).isSome=l.any p
 | [],_=>rfl
 | x::r,j=>by
  simp only [y0,List.any_cons];cases p x
  ·simp only [cond_false,Bool.false_or]; exact ze6 r (j+1)
  ·rfl
theorem zhs{α:Type}{p:α→Bool}(l:List α):decide ((0:Int)≤xo p l)=l.any p:=by
 rw [←ze6 l 0];unfold xo;cases y0 p l 0 with
 | none=>rfl
 | some j=>exact pa (Int.natCast_nonneg j)
theorem yh{j n:Nat}(h:j<n):decide ((j:Int)<(n:Int))=true:=pa (by omega)
theorem xu{n:Nat}:decide ((n:Int)<(n:Int))=false:=pb (by omega)
theorem xe{j:Nat}:decide ((0:Int)≤(j:Int))=true:=pa (by omega)
theorem zca{α:Type}{l r:List α}{x:α}{j:Nat}(h:l.drop j=x::r):j<l.length∧l[j]?=some x∧l.drop (j+1)=r:=by
 have h1:j<l.length:=by
  by_cases h':j<l.length
  ·exact h'
  ·rw [List.drop_eq_nil_of_le (by omega)] at h; cases h
 rw [List.drop_eq_getElem_cons h1] at h;injection h with h2 h3;exact ⟨h1,by rw [pr h1,h2],h3⟩
theorem wu{j n:Nat}(h:j<n)(hn:n<4294967296):IntKind.i64.wrap ((j:Int)+1)=((j+1:Nat):Int):=by
 rw [IntWalk.i64_in _ (by omega)]; rfl
theorem ze5{R α:Type}(L:Nat→Int→Option R)(xs:List α)(p:α→Bool)(B:Nat→Option R)(E:Option R)(hs:xs.length<4294967296)
  (H:∀ (k j:Nat) x,j<xs.length→xs[j]?=some x→L (k+1) j=bif p x then B j else L k (IntKind.i64.wrap ((j:Int)+1))) (HE:∀ k,L (k+1) xs.length=E) :
  ∀ (r:List α) (j k:Nat),xs.drop j=r→j≤xs.length→r.length<k→L k j=match y0 p r j with | some i=>B i | none=>E
 | [],j,k,hd,hj,hk=>by
  obtain ⟨k,rfl⟩:∃ i,k=i+1:=⟨k - 1,by omega⟩
  have:xs.length≤j:=by simpa using hd
  obtain rfl:j=xs.length:=by omega
  exact HE k
 | x::r,j,k,hd,hj,hk=>by
  obtain ⟨k,rfl⟩:∃ i,k=i+1:=⟨k - 1,by omega⟩
  obtain ⟨h1,h2,h3⟩:=zca hd;rw [H k j x h1 h2,y0];cases p x
  ·rw [cond_false,cond_false,wu h1 hs];exact ze5 L xs p B E hs H HE r (j+1) k h3 h1 (by simp at hk; omega)
  ·rfl
theorem zdt{R α:Type}(L:Nat→Int→Option R)(xs:List α)(p:α→Bool)(B:Nat→Option R)(E:Option R)(hs:xs.length<4294967296)
  (H:∀ (k j:Nat) x,j<xs.length→xs[j]?=some x→L (k+1) j=bif p x then B j else L k (IntKind.i64.wrap ((j:Int)+1))) (HE:∀ k,L (k+1) xs.length=E) {k:Nat} (hk:xs.length<k) :
  L k 0=match y0 p xs 0 with | some i=>B i | none=>E:=ze5 L xs p B E hs H HE xs 0 k rfl (Nat.zero_le _) hk
theorem xf{α:Type}{l:List α}(h:yj l=true):l.length<4294967296:=pc h
theorem zey{s:List UInt8}(h:yj s=true):decide (s.length≤big)=true:=pa (by have:=xf h; unfold big; omega)
theorem z8d{α:Type}{p:α→Bool}{l:List α}(h:l.all p=true){j:Nat}{x:α}(hx:l[j]?=some x):p x=true:=List.all_eq_true.1 h x (po hx)
theorem ycg(n:Nat)(l:List (List UInt8)) :
    zk cx K1 n 106 [.d (.sl 1 (l.map .str)),.func 170 []] [] =
  LP cx K1 n 106 0 2 n
    [(0,V.d (D.sl 1 (List.map D.str l))),(1,V.func 170 []),
      (7,V.d (D.int .i64 (↑(List.map D.str l).length:Int))),(8,V.d (D.int .i64 (0:Int)))]
    [] (AK cx K1 n 106 0 2 (EK cx 106 0)):=by kernel_rfl
theorem yah(n k:Nat)(l:List (List UInt8))(i:Int) :
    LP cx K1 n 106 0 2 (k+1) [(0,V.d (D.sl 1 (List.map D.str l))),(1,V.func 170 []),(7,V.d (D.int .i64 (l.length:Int))),(8,V.d (D.int .i64 i))] [] (AK cx K1 n 106 0 2 (EK cx 106 0)) =
  bif decide (i<(↑l.length:Int)) then
    za (decide (0≤i)&&decide (i<(↑(List.map D.str l).length:Int)))
      (ze (List.map D.str l) i.toNat λ y=>
        ze y.cells 0 λ c=>
          match c with
          | D.str s=>
            za (decide (s.length≤big))
              (bif !Sp.named s then some (Out.ret (V.d (D.int .i64 i)),[])
              else
                LP cx K1 n 106 0 2 k
                  [(0,V.d (D.sl 1 (List.map D.str l))),(1,V.func 170 []),
                    (7,V.d (D.int .i64 (↑l.length:Int))),
                    (8,V.d (D.int .i64 (IntKind.i64.wrap (i+(1:Int)))))]
                  [] (AK cx K1 n 106 0 2 (EK cx 106 0)))
          | x=>none)
  else some (Out.ret (V.d (D.int .i64 (Int.negSucc 0))),[]):=by kernel_rfl
theorem z69(l:List (List UInt8))(hl:yj l=true)(ha:l.all yj=true):zh cx 106 [.d (.sl 1 (l.map .str)),.func 170 []] []=some (.ret (.d (.int .i64 (xo (λ s=>!Sp.named s) l))),[]):=by
 refine zl zvg (N:=l.length+1) ?_;rw [ycg]
 have h:=ze5 (λ k i=>LP cx K1 (l.length+1) 106 0 2 k [(0,V.d (D.sl 1 (List.map D.str l))),(1,V.func 170 []),(7,V.d (D.int .i64 (l.length:Int))),(8,V.d (D.int .i64 i))] [] (AK cx K1 (l.length+1) 106 0 2 (EK cx 106 0)))
  l (λ s=>!Sp.named s) (λ j=>some (Out.ret (V.d (D.int .i64 j)),[])) (some (Out.ret (V.d (D.int .i64 (Int.negSucc 0))),[])) (xf hl)
  (λ k j x hj hx=>by
   rw [yah,pf,yh hj,xe,qg,pm,hx];simp only [cond_true,za,zd,Bool.and_self];show za (decide (x.length≤big)) _=_;rw [zey (z8d ha hx)];rfl) (λ k=>by rw [yah,xu,cond_false]) l 0 (l.length+1) rfl (Nat.zero_le _) (by omega)
 rw [pf];refine h.trans ?_;unfold xo;cases y0 (λ s=>!Sp.named s) l 0 <;> rfl
def zig:D→Option (List (List UInt8)) | .sl 1 l=>(match strs l with | some m=>bif yj m&&m.all yj then some m else none | none=>none) | _=>none
def qo:List V→Option D | [.d x]=>some x | _=>none
def zgp(c:Nat):List V→Option D | [.d x,.func g []]=>bif Nat.beq g c then some x else none | _=>none
theorem qj{a:List V}{x:D}(h:qo a=some x):a=[.d x]:=by
 unfold qo at h;split at h
 ·cases h; rfl
 ·cases h
theorem zb2{a:List V}{c:Nat}{x:D}(h:zgp c a=some x):a=[.d x,.func c []]:=by
 unfold zgp at h;split at h
 ·rename_i x g;cases hc:Nat.beq g c <;> rw [hc] at h
  ·cases h
  ·obtain rfl:=pg hc;cases h; rfl
 ·cases h
theorem zr3{x:D}{m}(h:zig x=some m):x=.sl 1 (m.map .str)∧yj m=true∧m.all yj=true:=by
 unfold zig at h;split at h
 ·split at h
  ·rename_i m' hm;cases hc:(yj m'&&m'.all yj) <;> rw [hc] at h
   ·cases h
   ·cases h;rw [ph] at hc;exact ⟨by rw [zhi hm],hc⟩
  ·cases h
 ·cases h
theorem z14{m:List (List UInt8)}(h1:yj m=true)(h2:m.all yj=true):zig (.sl 1 (m.map .str))=some m:=by
 unfold zig;simp only [ztg,h1,h2];rfl
def K2:CK R1:=zx 106 (zgp 170) zig (λ l=>mkI (xo (λ s=>!Sp.named s) l)) K1
theorem zvf:knows cx K2.S (zh cx):=zj zvg λ a q b hd h hb=>by
 obtain rfl:=zb2 h;obtain ⟨rfl,h1,h2⟩:=zr3 hb;exact z69 b h1 h2
open Classical in
def Sp.toC(x:D):Option T:=if h:∃ t:T,x=t.d∧t.ok=true then some h.choose else none
theorem w7{x:D}{t:T}(h:Sp.toC x=some t):x=t.d∧t.ok=true:=by
 unfold Sp.toC at h;split at h
 ·rename_i hex; cases h; exact hex.choose_spec
 ·cases h
theorem yaw{t u:T}(ht:t.ok=true)(hu:u.ok=true)(h:t.d=u.d):t=u:=by
 have h1:=zd8 (n:=max t.depth u.depth) (t:=t) (by omega) ht
 have h2:=zd8 (n:=max t.depth u.depth) (t:=u) (by omega) hu
 rw [h,h2] at h1;exact (Option.some.inj h1).symm
theorem zjb{t:T}(h:t.ok=true):Sp.toC t.d=some t:=by
 have hex:∃ u:T,t.d=u.d∧u.ok=true:=⟨t,rfl,h⟩;unfold Sp.toC;rw [dif_pos hex];obtain ⟨h1,h2⟩:=hex.choose_spec;rw [←yaw h h2 h1]
def Sp.plain:T×Int×Int×Bool→Bool
 | (.mk _ nm kids nms _,a,b,w)=>decide ((kids.length:Int)=a)&&decide ((nms.length:Int)=b)&&(w||decide (nm=[]))&&nms.all Sp.named
def Sp.bit(s:List UInt8):Bool:=decide (s=[48])||decide (s=[49])
def Sp.form:T→Bool
 | .mk k nm [] nms _=>decide (nms=[])&&((decide (k=1)&&Sp.named nm)||(decide (k=17)&&Sp.bit nm))
 | .mk k nm [a] nms _=>decide (k=16)&&decide (nm=[])&&decide (nms=[])&&Sp.form a
 | .mk k nm [a,b] nms _=>(decide (k=14)||decide (k=15))&&decide (nm=[])&&decide (nms=[])&&Sp.form a&&Sp.form b
 | _=>false
def zbn:T→Bool
 | .mk k nm [] [x] _=>decide (k=13)&&Sp.named nm&&Sp.bit x
 | _=>false
def zfc:T→Bool
 | .mk k nm kids nms _=>decide (k=12)&&decide (nm=[])&&decide (nms=[])&&kids.all zbn
mutual
def Sp.right:T→Bool
 | .mk k nm [] nms _=>decide (nms=[])&&((decide (k=1)&&Sp.named nm)||(decide (k=10)&&decide (nm=[])))
 | .mk k nm [a] nms _=>decide (nm=[])&&(((decide (k=2)||decide (k=3))&&!decide (nms=[])&&nms.all Sp.named&&Sp.right a)||(decide (k=10)&&decide (nms=[])&&Sp.elem a))
 | .mk k nm [a,b] nms _=>decide (nm=[])&&(((decide (k=4)||decide (k=5))&&decide (nms.length<2)&&nms.all Sp.named&&Sp.right a&&Sp.right b) ||
   ((decide (k=6)||decide (k=8)||decide (k=9))&&decide (nms=[])&&Sp.right a&&Sp.right b)||(decide (k=7)&&decide (nms=[])&&Sp.right a&&Sp.form b)||(decide (k=10)&&decide (nms=[])&&Sp.elem a&&Sp.elem b))
 | .mk k nm (a::b::c::l) nms _=>decide (nm=[])&&decide (k=10)&&decide (nms=[])&&(Sp.elem a&&Sp.elem b&&Sp.elem c&&Sp.elems l)
def Sp.elem:T→Bool
 | .mk k nm [f] nms _=>decide (k=11)&&decide (nm=[])&&decide (nms=[])&&zfc f
 | .mk k nm [f,u] nms _=>decide (k=11)&&decide (nm=[])&&decide (nms=[])&&zfc f&&Sp.right u
 | _=>false
def Sp.elems:List T→Bool
 | []=>true
 | t::l=>Sp.elem t&&Sp.elems l
end
theorem zhx:∀ l:List T,Sp.elems l=l.all Sp.elem
 | []=>rfl
 | t::l=>by rw [Sp.elems,zhx l,List.all_cons]
def z3g:List V→Option (D×Int×Int×Bool)
 | [.d x,.d (.int .i64 a),.d (.int .i64 b),.d (.bool w)]=>some (x,a,b,w)
 | _=>none
theorem zwr{a:List V}{q}(h:z3g a=some q):a=[.d q.1,.d (.int .i64 q.2.1),.d (.int .i64 q.2.2.1),.d (.bool q.2.2.2)]:=by
 unfold z3g at h;split at h
 ·cases h; rfl
 ·cases h
def K3:CK R1:=zx 78 (zgp 170) zig (λ l=>mkB (l.any (λ s=>!Sp.named s))) K2
def K4:CK R1:=zx 136 z3g (λ q=>zd (Sp.toC q.1) λ t=>some (t,q.2)) (λ q=>mkB (Sp.plain q)) K3
def vc(f:D→Option T):D→Option (List T) | .sl 5 l=>(match toL f l with | some m=>bif yj m then some m else none | none=>none) | _=>none
theorem zd6{f:D→Option T}{x:D}{m:List T}(h:vc f x=some m):∃ l,x=.sl 5 l∧toL f l=some m∧yj m=true:=by
 unfold vc at h;split at h
 ·split at h
  ·rename_i l q hq;cases hs:yj q <;> rw [hs] at h
   ·cases h
   ·cases h; exact ⟨_,rfl,hq,hs⟩
  ·cases h
 ·cases h
theorem zfe{f:D→Option T}(hf:∀ x t,f x=some t→x=t.d):∀ {l:List D} {m:List T},toL f l=some m→l=T.ds m∧∀ t∈m,f t.d=some t
 | [],m,h=>by cases h; exact ⟨rfl,λ t ht=>by cases ht⟩
 | x::r,m,h=>by
  unfold toL at h;split at h
  ·rename_i t l ht hl;cases h;obtain ⟨h1,h2⟩:=zfe hf hl;have hx:=hf x t ht;refine ⟨by rw [hx,h1]; rfl,λ u hu=>?_⟩
   cases hu with
   | head=>rw [←hx]; exact ht
   | tail _ hu=>exact h2 u hu
  ·cases h
theorem zms{f:D→Option T}:∀ {m:List T},(∀ t∈m,f t.d=some t)→yj m=true→vc f (.sl 5 (T.ds m))=some m:=by
 intro m h hs;have key:∀ l:List T,(∀ t∈l,f t.d=some t)→toL f (T.ds l)=some l:=by
  intro l
  induction l with
  | nil=>intro _; rfl
  | cons t l ih=>
   intro h;simp only [T.ds,toL,h t (pn ..),ih λ u hu=>h u (pp _ hu)]
 simp only [vc,key m h,hs];rfl
theorem z5l{l:List (List UInt8)}:(!l.any λ s=>!Sp.named s)=l.all Sp.named:=by rw [List.not_any_eq_all_not]; simp
theorem zag{k:Int}{nm:List UInt8}{kids:List T}{nms:List (List UInt8)}{pl:Int}(h:(T.mk k nm kids nms pl).ok=true):yj nm=true∧yj kids=true∧yj nms=true∧nms.all yj=true∧T.oks kids=true:=by
 simp only [T.ok,ph] at h;exact ⟨h.1.1.1.1,h.1.1.1.2,h.1.1.2,h.1.2,h.2⟩
theorem za3{k:Int}{nm:List UInt8}{kids:List T}{nms:List (List UInt8)}{pl:Int}{m:Nat}(h:(T.mk k nm kids nms pl).depth≤m+1):T.depths kids≤m:=by
 simp only [T.depth] at h; omega
theorem zc6{t:T}{l:List T}{m:Nat}(hd:T.depths l≤m)(ho:T.oks l=true)(h:t∈l):zi m t.d=some t:=
 zd8 (Nat.le_trans (zk8 h) hd) (qm ho h)
theorem zhp{t:T}{l:List T}(ho:T.oks l=true)(h:t∈l):Sp.toC t.d=some t:=zjb (qm ho h)
theorem g84(n:Nat)(l:List (List UInt8)):zk cx K2 n 78 [.d (.sl 1 (l.map .str)),.func 170 []] []=zd (zig (D.sl 1 (List.map D.str l))) λ b=>some (Out.ret (V.d (D.bool (decide ((0:Int)≤xo (λ s=>!Sp.named s) b)))),[]):=by kernel_rfl
theorem g61(n:Nat)(k:Int)(nm:List UInt8)(kids:List T)(nms:List (List UInt8))(pl a b:Int)(w:Bool):zk cx K3 n 136 [.d (.agg [.int .i64 k,.str nm,.sl 5 (T.ds kids),.sl 1 (nms.map .str),.int .i64 pl]),.d (.int .i64 a),.d (.int .i64 b),.d (.bool w)] []=bif !decide ((↑(T.ds kids).length:Int)=a) then some (Out.ret (V.d (D.bool false)),[]) else bif !decide ((↑(List.map D.str nms).length:Int)=b) then some (Out.ret (V.d (D.bool false)),[]) else bif !w then bif !decide (nm=[]) then some (Out.ret (V.d (D.bool false)),[]) else zd (zig (D.sl 1 (List.map D.str nms))) λ b=>some (Out.ret (V.d (D.bool !b.any λ s=>!Sp.named s)),[]) else zd (zig (D.sl 1 (List.map D.str nms))) λ b=>some (Out.ret (V.d (D.bool !b.any λ s=>!Sp.named s)),[]):=by kernel_rfl
theorem z9c(l:List (List UInt8))(h1:yj l=true)(h2:l.all yj=true):zh cx 78 [.d (.sl 1 (l.map .str)),.func 170 []] []=some (.ret (mkB (l.any λ s=>!Sp.named s)),[]):=by
 refine zl zvf (N:=0) ?_;rw [g84,z14 h1 h2,←zhs];rfl
theorem zve:knows cx K3.S (zh cx):=zj zvf λ a q b hd h hb=>by
 obtain rfl:=zb2 h;obtain ⟨rfl,h1,h2⟩:=zr3 hb;exact z9c b h1 h2
theorem z9j(t:T)(a b:Int)(w:Bool)(h:t.ok=true):zh cx 136 [.d t.d,.d (.int .i64 a),.d (.int .i64 b),.d (.bool w)] []=some (.ret (mkB (Sp.plain (t,a,b,w))),[]):=by
 obtain ⟨k,nm,kids,nms,pl⟩:=t;obtain ⟨h1,h2,h3,h4,h5⟩:=zag h;refine zl zve (N:=0) ?_;refine (g61 0 k nm kids nms pl a b w).trans ?_;rw [z14 h3 h4,ya,pf];simp only [zd,z5l,Sp.plain,mkB];cases decide ((kids.length:Int)=a) <;> cases decide ((nms.length:Int)=b) <;> cases w <;> cases decide (nm=[]) <;> rfl
theorem zpa:knows cx K4.S (zh cx):=zj zve λ a q b hd h hb=>by
 obtain rfl:=zwr h;obtain ⟨t,ht,hb⟩:=zb hb;cases hb;obtain ⟨he,h1⟩:=w7 ht;rw [he];exact z9j t _ _ _ h1
theorem g88(n:Nat)(k:Int)(nm:List UInt8)(kids:List T)(nms:List (List UInt8))(pl:Int):zk cx K4 n 172 [.d (.agg [.int .i64 k,.str nm,.sl 5 (T.ds kids),.sl 1 (nms.map .str),.int .i64 pl])] []=bif decide (k=(13:Int)) then bif decide ((↑(T.ds kids).length:Int)=(0:Int)) then za (decide (nm.length≤big)) (bif Sp.named nm then bif decide ((↑(List.map D.str nms).length:Int)=(1:Int)) then za (decide ((0:Int)<(↑(List.map D.str nms).length:Int))) (ze (List.map D.str nms) (0:Int).toNat λ y=>ze y.cells 0 λ c=>match c with
 | D.str s=>bif decide (s=[48]) then some (Out.ret (V.d (D.bool true)),[]) else za (decide ((0:Int)<(↑(List.map D.str nms).length:Int))) (ze (List.map D.str nms) (0:Int).toNat λ y=>ze y.cells 0 λ c=>match c with
  | D.str s=>some (Out.ret (V.d (D.bool (decide (s=[49])))),[])
  | x=>none)
 | x=>none) else some (Out.ret (V.d (D.bool false)),[]) else some (Out.ret (V.d (D.bool false)),[])) else some (Out.ret (V.d (D.bool false)),[]) else some (Out.ret (V.d (D.bool false)),[]):=by kernel_rfl
theorem g62(n m:Nat)(k:Int)(nm:List UInt8)(kids:List T)(nms:List (List UInt8))(pl:Int):zk cx (zx 137 qo (zi m) (λ t=>mkB (Sp.form t)) K4) n 137 [.d (.agg [.int .i64 k,.str nm,.sl 5 (T.ds kids),.sl 1 (nms.map .str),.int .i64 pl])] []=bif decide (k=(1:Int)) then zd (zd (Sp.toC (D.agg [D.int .i64 k,D.str nm,D.sl 5 (T.ds kids),D.sl 1 (List.map D.str nms),D.int .i64 pl],(0:Int),(0:Int),true).fst) λ t=>some (t,(0:Int),(0:Int),true)) λ b=>bif Sp.plain b then za (decide (nm.length≤big)) (some (Out.ret (V.d (D.bool (Sp.named nm))),[])) else some (Out.ret (V.d (D.bool false)),[]) else bif decide (k=(17:Int)) then zd (zd (Sp.toC (D.agg [D.int .i64 k,D.str nm,D.sl 5 (T.ds kids),D.sl 1 (List.map D.str nms),D.int .i64 pl],(0:Int),(0:Int),true).fst) λ t=>some (t,(0:Int),(0:Int),true)) λ b=>bif Sp.plain b then bif decide (nm=[48]) then some (Out.ret (V.d (D.bool true)),[]) else some (Out.ret (V.d (D.bool (decide (nm=[49])))),[]) else some (Out.ret (V.d (D.bool false)),[]) else bif decide (k=(16:Int)) then zd (zd (Sp.toC (D.agg [D.int .i64 k,D.str nm,D.sl 5 (T.ds kids),D.sl 1 (List.map D.str nms),D.int .i64 pl],(1:Int),(0:Int),false).fst) λ t=>some (t,(1:Int),(0:Int),false)) λ b=>bif Sp.plain b then za (decide ((0:Int)<(↑(T.ds kids).length:Int))) (ze (T.ds kids) (0:Int).toNat λ y=>ze y.cells 0 λ c=>ze y.cells 1 λ c_1=>ze y.cells 2 λ c_2=>ze y.cells 3 λ c_3=>ze y.cells 4 λ c_4=>zd (zi m (D.agg [c,c_1,c_2,c_3,c_4])) λ b=>some (Out.ret (V.d (D.bool (Sp.form b))),[])) else some (Out.ret (V.d (D.bool false)),[]) else bif decide (k=(15:Int)) then bif decide (k=(15:Int)) then zd (zd (Sp.toC (D.agg [D.int .i64 k,D.str nm,D.sl 5 (T.ds kids),D.sl 1 (List.map D.str nms),D.int .i64 pl],(2:Int),(0:Int),false).fst) λ t=>some (t,(2:Int),(0:Int),false)) λ b=>bif Sp.plain b then za (decide ((0:Int)<(↑(T.ds kids).length:Int))) (ze (T.ds kids) (0:Int).toNat λ y=>ze y.cells 0 λ c=>ze y.cells 1 λ c_1=>ze y.cells 2 λ c_2=>ze y.cells 3 λ c_3=>ze y.cells 4 λ c_4=>zd (zi m (D.agg [c,c_1,c_2,c_3,c_4])) λ b=>bif Sp.form b then za (decide ((1:Int)<(↑(T.ds kids).length:Int))) (ze (T.ds kids) (1:Int).toNat λ y=>ze y.cells 0 λ c=>ze y.cells 1 λ c_5=>ze y.cells 2 λ c_6=>ze y.cells 3 λ c_7=>ze y.cells 4 λ c_8=>zd (zi m (D.agg [c,c_5,c_6,c_7,c_8])) λ b=>some (Out.ret (V.d (D.bool (Sp.form b))),[])) else some (Out.ret (V.d (D.bool false)),[])) else some (Out.ret (V.d (D.bool false)),[]) else some (Out.ret (V.d (D.bool false)),[]) else bif decide (k=(14:Int)) then zd (zd (Sp.toC (D.agg [D.int .i64 k,D.str nm,D.sl 5 (T.ds kids),D.sl 1 (List.map D.str nms),D.int .i64 pl],(2:Int),(0:Int),false).fst) λ t=>some (t,(2:Int),(0:Int),false)) λ b=>bif Sp.plain b then za (decide ((0:Int)<(↑(T.ds kids).length:Int))) (ze (T.ds kids) (0:Int).toNat λ y=>ze y.cells 0 λ c=>ze y.cells 1 λ c_1=>ze y.cells 2 λ c_2=>ze y.cells 3 λ c_3=>ze y.cells 4 λ c_4=>zd (zi m (D.agg [c,c_1,c_2,c_3,c_4])) λ b=>bif Sp.form b then za (decide ((1:Int)<(↑(T.ds kids).length:Int))) (ze (T.ds kids) (1:Int).toNat λ y=>ze y.cells 0 λ c=>ze y.cells 1 λ c_5=>ze y.cells 2 λ c_6=>ze y.cells 3 λ c_7=>ze y.cells 4 λ c_8=>zd (zi m (D.agg [c,c_5,c_6,c_7,c_8])) λ b=>some (Out.ret (V.d (D.bool (Sp.form b))),[])) else some (Out.ret (V.d (D.bool false)),[])) else some (Out.ret (V.d (D.bool false)),[]) else some (Out.ret (V.d (D.bool false)),[]):=by kernel_rfl
theorem z7a{α:Type}(l:List α)(n:Nat):decide ((l.length:Int)=(n:Int))=decide (l.length=n):=by
 by_cases h:l.length=n
 ·rw [pa h,pa (by omega)]
 ·rw [pb h,pb (by omega)]
theorem zzg{α:Type}(l:List α):decide ((l.length:Int)=0)=decide (l.length=0):=z7a l 0
theorem zzj{α:Type}(l:List α):decide ((l.length:Int)=1)=decide (l.length=1):=z7a l 1
theorem z2k{α:Type}(l:List α):decide ((l.length:Int)=2)=decide (l.length=2):=z7a l 2
theorem zzi{α:Type}(l:List α):decide ((0:Int)<(l.length:Int))=decide (0<l.length):=by
 by_cases h:0<l.length
 ·rw [pa h,pa (by omega)]
 ·rw [pb h,pb (by omega)]
theorem zx5{α:Type}(l:List α):decide ((1:Int)<(l.length:Int))=decide (1<l.length):=by
 by_cases h:1<l.length
 ·rw [pa h,pa (by omega)]
 ·rw [pb h,pb (by omega)]
theorem zdu{c x:Bool}{σ:St}:(bif c then some (Out.ret (V.d (D.bool x)),σ) else some (Out.ret (V.d (D.bool false)),σ))=some (Out.ret (V.d (D.bool (c&&x))),σ):=by cases c <;> rfl
theorem zkc{c x:Bool}{σ:St}:(bif c then some (Out.ret (V.d (D.bool true)),σ) else some (Out.ret (V.d (D.bool x)),σ))=some (Out.ret (V.d (D.bool (c||x))),σ):=by cases c <;> rfl
theorem z9b(t:T)(h:t.ok=true):zh cx 172 [.d t.d] []=some (.ret (mkB (zbn t)),[]):=by
 obtain ⟨k,nm,kids,nms,pl⟩:=t;obtain ⟨h1,h2,h3,h4,h5⟩:=zag h;refine zl zpa (N:=0) ?_;refine (g88 0 k nm kids nms pl).trans ?_;simp only [ya,pf,zey h1,zzg,zzj,zzi,qg];have hk:k=13∨k ≠ 13:=by omega
 rcases hk with rfl | hk <;> rcases kids with _ | ⟨a,kids⟩ <;> rcases nms with _ | ⟨x,_ | ⟨y,nms⟩⟩ <;> simp [zbn,mkB,za,zd,Sp.bit,zdu,zkc, *]
 show (bif Sp.named nm then (bif decide (x=[48]) then _ else some (Out.ret (V.d (D.bool (decide (x=[49])))),[])) else _)=_;simp only [zkc,zdu]
theorem z50:∀ (m:Nat) (t:T),t.depth≤m→t.ok=true→zh cx 137 [.d t.d] []=some (.ret (mkB (Sp.form t)),[])
 | 0,.mk ..,h,_=>by simp [T.depth] at h
 | m+1,.mk k nm kids nms pl,hd,ho=>by
  have hK:knows cx (zx 137 qo (zi m) (λ t=>mkB (Sp.form t)) K4).S (zh cx):=zj zpa λ a q b _ h hb=>by
   obtain rfl:=qj h;obtain ⟨rfl,h1,h2⟩:=y7 hb;exact z50 m b h1 h2
  obtain ⟨h1,h2,h3,h4,h5⟩:=zag ho;have hkd:=za3 hd;refine zl hK (N:=0) ?_;refine (g62 0 m k nm kids nms pl).trans ?_;have hC:Sp.toC (D.agg [D.int .i64 k,D.str nm,D.sl 5 (T.ds kids),D.sl 1 (List.map D.str nms),D.int .i64 pl])=some (.mk k nm kids nms pl):=zjb ho;have hT:∀ t∈kids,zi m t.d=some t:=λ t h=>zc6 hkd h5 h;simp only [hC,zd,ya,zey h1,za,cond_true,yv,xk,vm,zcj,zci,zch,zcg,zbk,Sp.plain,zzg,zzj,z2k,zzi,zx5];clear hC hK ho hd;have hk:k=1∨k=17∨k=16∨k=15∨k=14∨(k ≠ 1∧k ≠ 17∧k ≠ 16∧k ≠ 15∧k ≠ 14):=by omega
  rcases hk with rfl | rfl | rfl | rfl | rfl | ⟨q1,q2,q3,q4,q5⟩ <;> rcases kids with _ | ⟨a,_ | ⟨b,_ | ⟨c,l⟩⟩⟩ <;> rcases nms with _ | ⟨x,nms⟩ <;> simp [Sp.form,mkB,Sp.bit,hT,zdu,zkc,Bool.and_assoc, *]
def K5:CK R1:=zx 137 qo Sp.toC (λ t=>mkB (Sp.form t)) (zx 172 qo Sp.toC (λ t=>mkB (zbn t)) K4)
theorem zcr:knows cx K5.S (zh cx):=by
 have h88:=zj (f:=172) (dec:=qo) (sp:=Sp.toC) (mk:=λ t=>mkB (zbn t)) zpa λ a q b hd h hb=>by
  obtain rfl:=qj h;obtain ⟨rfl,h1⟩:=w7 hb;exact z9b b h1
 exact zj h88 λ a q b hd h hb=>by
  obtain rfl:=qj h;obtain ⟨rfl,h1⟩:=w7 hb;exact z50 b.depth b (Nat.le_refl _) h1
theorem g87(n:Nat)(t:T):zk cx K5 n 171 [.d t.d] []=zd (Sp.toC t.d) λ b=>some (Out.ret (V.d (D.bool !zbn b)),[]):=by
  cases t; kernel_rfl
def K6:CK R1:=zx 171 qo Sp.toC (λ t=>mkB (!zbn t)) K5
theorem z35:knows cx K6.S (zh cx):=zj zcr λ a q b hd h hb=>by
 obtain rfl:=qj h;obtain ⟨rfl,h1⟩:=w7 hb;refine zl zcr (N:=0) ?_;rw [g87,zjb h1];rfl
theorem g86(n:Nat)(l:List T)(S:CK R1)(g:Nat):zk cx S n 45 [.d (.sl 5 (T.ds l)),.func g []] []=LP cx S n 45 0 2 n [(0,V.d (D.sl 5 (T.ds l))),(1,V.func g []),(7,V.d (D.int .i64 (↑(T.ds l).length:Int))),(8,V.d (D.int .i64 (0:Int)))] [] (AK cx S n 45 0 2 (EK cx 45 0)):=by kernel_rfl
theorem z90(n k:Nat)(l:List T)(i:Int)(f:D→Option T)(p:T→Bool)(S:CK R1):LP cx (zx 171 qo f (λ t=>mkB (p t)) S) n 45 0 2 (k+1) [(0,V.d (D.sl 5 (T.ds l))),(1,V.func 171 []),(7,V.d (D.int .i64 (l.length:Int))),(8,V.d (D.int .i64 i))] [] (AK cx (zx 171 qo f (λ t=>mkB (p t)) S) n 45 0 2 (EK cx 45 0))=bif decide (i<(↑l.length:Int)) then za (decide (0≤i)&&decide (i<(↑(T.ds l).length:Int))) (ze (T.ds l) i.toNat λ y=>ze y.cells 0 λ c=>ze y.cells 1 λ c_1=>ze y.cells 2 λ c_2=>ze y.cells 3 λ c_3=>ze y.cells 4 λ c_4=>zd (f (D.agg [c,c_1,c_2,c_3,c_4])) λ b=>bif p b then some (Out.ret (V.d (D.int .i64 i)),[]) else LP cx (zx 171 qo f (λ t=>mkB (p t)) S) n 45 0 2 k [(0,V.d (D.sl 5 (T.ds l))),(1,V.func 171 []),(7,V.d (D.int .i64 (↑l.length:Int))),(8,V.d (D.int .i64 (IntKind.i64.wrap (i+(1:Int)))))] [] (AK cx (zx 171 qo f (λ t=>mkB (p t)) S) n 45 0 2 (EK cx 45 0))) else some (Out.ret (V.d (D.int .i64 (Int.negSucc 0))),[]):=by kernel_rfl
theorem z9z(n k:Nat)(l:List T)(i:Int)(f:D→Option T)(p:T→Bool)(S:CK R1):LP cx (zx 139 qo f (λ t=>mkB (p t)) S) n 45 0 2 (k+1) [(0,V.d (D.sl 5 (T.ds l))),(1,V.func 139 []),(7,V.d (D.int .i64 (l.length:Int))),(8,V.d (D.int .i64 i))] [] (AK cx (zx 139 qo f (λ t=>mkB (p t)) S) n 45 0 2 (EK cx 45 0))=bif decide (i<(↑l.length:Int)) then za (decide (0≤i)&&decide (i<(↑(T.ds l).length:Int))) (ze (T.ds l) i.toNat λ y=>ze y.cells 0 λ c=>ze y.cells 1 λ c_1=>ze y.cells 2 λ c_2=>ze y.cells 3 λ c_3=>ze y.cells 4 λ c_4=>zd (f (D.agg [c,c_1,c_2,c_3,c_4])) λ b=>bif p b then some (Out.ret (V.d (D.int .i64 i)),[]) else LP cx (zx 139 qo f (λ t=>mkB (p t)) S) n 45 0 2 k [(0,V.d (D.sl 5 (T.ds l))),(1,V.func 139 []),(7,V.d (D.int .i64 (↑l.length:Int))),(8,V.d (D.int .i64 (IntKind.i64.wrap (i+(1:Int)))))] [] (AK cx (zx 139 qo f (λ t=>mkB (p t)) S) n 45 0 2 (EK cx 45 0))) else some (Out.ret (V.d (D.int .i64 (Int.negSucc 0))),[]):=by kernel_rfl
theorem ycb(n:Nat)(l:List D)(f:D→Option (List T))(p:T→Bool)(S:CK R1):zk cx (zx 45 (zgp 171) f (λ t=>mkI (xo p t)) S) n 138 [.d (.sl 5 l),.func 171 []] []=zd (f (D.sl 5 l)) λ b=>some (Out.ret (V.d (D.bool (decide ((0:Int)≤xo p b)))),[]):=by kernel_rfl
theorem yca(n:Nat)(l:List D)(f:D→Option (List T))(p:T→Bool)(S:CK R1):zk cx (zx 45 (zgp 139) f (λ t=>mkI (xo p t)) S) n 138 [.d (.sl 5 l),.func 139 []] []=zd (f (D.sl 5 l)) λ b=>some (Out.ret (V.d (D.bool (decide ((0:Int)≤xo p b)))),[]):=by kernel_rfl
theorem z60{f:D→Option T}{p:T→Bool}{S:CK R1}(hK:knows cx (zx 171 qo f (λ t=>mkB (p t)) S).S (zh cx))(l:List T)(hl:yj l=true)(hf:∀ t∈l,f t.d=some t) :
  zh cx 45 [.d (.sl 5 (T.ds l)),.func 171 []] []=some (.ret (mkI (xo p l)),[]):=by
 refine zl hK (N:=l.length+1) ?_;rw [g86]
 have h:=ze5 (λ k i=>LP cx (zx 171 qo f (λ t=>mkB (p t)) S) (l.length+1) 45 0 2 k [(0,V.d (D.sl 5 (T.ds l))),(1,V.func 171 []),(7,V.d (D.int .i64 (l.length:Int))),(8,V.d (D.int .i64 i))] [] (AK cx (zx 171 qo f (λ t=>mkB (p t)) S) (l.length+1) 45 0 2 (EK cx 45 0)))
  l p (λ j=>some (Out.ret (V.d (D.int .i64 j)),[])) (some (Out.ret (V.d (D.int .i64 (Int.negSucc 0))),[])) (xf hl)
  (λ k j x hj hx=>by
   rw [z90,ya,yh hj,xe,yv,pm,hx];simp only [cond_true,za,zd,Bool.and_self,xk,vm,zcj,zci,zch,zcg,zbk,hf x (po hx)]) (λ k=>by rw [z90,xu,cond_false]) l 0 (l.length+1) rfl (Nat.zero_le _) (by omega)
 rw [ya];refine h.trans ?_;unfold xo;cases y0 p l 0 <;> rfl
theorem z6z{f:D→Option T}{p:T→Bool}{S:CK R1}(hK:knows cx (zx 139 qo f (λ t=>mkB (p t)) S).S (zh cx))(l:List T)(hl:yj l=true)(hf:∀ t∈l,f t.d=some t) :
  zh cx 45 [.d (.sl 5 (T.ds l)),.func 139 []] []=some (.ret (mkI (xo p l)),[]):=by
 refine zl hK (N:=l.length+1) ?_;rw [g86]
 have h:=ze5 (λ k i=>LP cx (zx 139 qo f (λ t=>mkB (p t)) S) (l.length+1) 45 0 2 k [(0,V.d (D.sl 5 (T.ds l))),(1,V.func 139 []),(7,V.d (D.int .i64 (l.length:Int))),(8,V.d (D.int .i64 i))] [] (AK cx (zx 139 qo f (λ t=>mkB (p t)) S) (l.length+1) 45 0 2 (EK cx 45 0)))
  l p (λ j=>some (Out.ret (V.d (D.int .i64 j)),[])) (some (Out.ret (V.d (D.int .i64 (Int.negSucc 0))),[])) (xf hl)
  (λ k j x hj hx=>by
   rw [z9z,ya,yh hj,xe,yv,pm,hx];simp only [cond_true,za,zd,Bool.and_self,xk,vm,zcj,zci,zch,zcg,zbk,hf x (po hx)]) (λ k=>by rw [z9z,xu,cond_false]) l 0 (l.length+1) rfl (Nat.zero_le _) (by omega)
 rw [ya];refine h.trans ?_;unfold xo;cases y0 p l 0 <;> rfl
theorem z65{f:D→Option T}(hf0:∀ x t,f x=some t→x=t.d){p:T→Bool}{S:CK R1}(hS:knows cx S.S (zh cx))(hK:knows cx (zx 171 qo f (λ t=>mkB (p t)) S).S (zh cx))(l:List T)(hl:yj l=true)(hf:∀ t∈l,f t.d=some t) :
  zh cx 138 [.d (.sl 5 (T.ds l)),.func 171 []] []=some (.ret (mkB (l.any p)),[]):=by
 have h86:knows cx (zx 45 (zgp 171) (vc f) (λ t=>mkI (xo p t)) S).S (zh cx):=zj hS λ a q b hd h hb=>by
  obtain rfl:=zb2 h;obtain ⟨l,rfl,h1,h2⟩:=zd6 hb;obtain ⟨rfl,h3⟩:=zfe hf0 h1;exact z60 hK b h2 h3
 refine zl h86 (N:=0) ?_;rw [ycb,zms hf hl,←zhs];rfl
theorem z64{f:D→Option T}(hf0:∀ x t,f x=some t→x=t.d){p:T→Bool}{S:CK R1}(hS:knows cx S.S (zh cx))(hK:knows cx (zx 139 qo f (λ t=>mkB (p t)) S).S (zh cx))(l:List T)(hl:yj l=true)(hf:∀ t∈l,f t.d=some t) :
  zh cx 138 [.d (.sl 5 (T.ds l)),.func 139 []] []=some (.ret (mkB (l.any p)),[]):=by
 have h86:knows cx (zx 45 (zgp 139) (vc f) (λ t=>mkI (xo p t)) S).S (zh cx):=zj hS λ a q b hd h hb=>by
  obtain rfl:=zb2 h;obtain ⟨l,rfl,h1,h2⟩:=zd6 hb;obtain ⟨rfl,h3⟩:=zfe hf0 h1;exact z6z hK b h2 h3
 refine zl h86 (N:=0) ?_;rw [yca,zms hf hl,←zhs];rfl
theorem g65(n m:Nat)(k:Int)(nm:List UInt8)(kids:List T)(nms:List (List UInt8))(pl:Int)(S:CK R1):zk cx (zx 138 (zgp 171) (vc Sp.toC) (λ l=>mkB (l.any (λ t=>!zbn t))) (zx 94 qo (zi m) (λ t=>mkB (Sp.right t)) S)) n 140 [.d (.agg [.int .i64 k,.str nm,.sl 5 (T.ds kids),.sl 1 (nms.map .str),.int .i64 pl])] []=bif !decide (k=(11:Int)) then some (Out.ret (V.d (D.bool false)),[]) else bif decide ((↑(T.ds kids).length:Int)<(1:Int)) then some (Out.ret (V.d (D.bool false)),[]) else bif decide ((2:Int)<(↑(T.ds kids).length:Int)) then some (Out.ret (V.d (D.bool false)),[]) else bif decide ((0:Int)<(↑(List.map D.str nms).length:Int)) then some (Out.ret (V.d (D.bool false)),[]) else bif !decide (nm=[]) then some (Out.ret (V.d (D.bool false)),[]) else za (decide ((0:Int)<(↑(T.ds kids).length:Int))) (ze (T.ds kids) (0:Int).toNat λ y=>ze y.cells 0 λ c=>ze y.cells 1 λ c_1=>ze y.cells 2 λ c_2=>ze y.cells 3 λ c_3=>ze y.cells 4 λ c_4=>match c with
 | D.int k' n=>bif decide (k'=IntKind.i64) then bif !decide (n=(12:Int)) then some (Out.ret (V.d (D.bool false)),[]) else match c_3 with
  | D.sl s l=>bif s.beq (cx.P.cellsOf 9)||l.isEmpty then bif decide ((0:Int)<(↑l.length:Int)) then some (Out.ret (V.d (D.bool false)),[]) else match c_1 with
   | D.str s=>bif !decide (s=[]) then some (Out.ret (V.d (D.bool false)),[]) else match c_2 with
    | D.sl s l=>bif s.beq (cx.P.cellsOf 26)||l.isEmpty then zd (vc Sp.toC (D.sl 5 l)) λ b=>bif b.any λ t=>!zbn t then some (Out.ret (V.d (D.bool false)),[]) else bif decide ((↑(T.ds kids).length:Int)=(1:Int)) then some (Out.ret (V.d (D.bool true)),[]) else za (decide ((1:Int)<(↑(T.ds kids).length:Int))) (ze (T.ds kids) (1:Int).toNat λ y=>ze y.cells 0 λ c=>ze y.cells 1 λ c_5=>ze y.cells 2 λ c_6=>ze y.cells 3 λ c_7=>ze y.cells 4 λ c_8=>zd (zi m (D.agg [c,c_5,c_6,c_7,c_8])) λ b=>some (Out.ret (V.d (D.bool (Sp.right b))),[])) else none
    | x=>none
   | x=>none else none
  | x=>none else none
 | x=>none):=by kernel_rfl
theorem g64(n:Nat)(k:Int)(nm:List UInt8)(kids:List T)(nms:List (List UInt8))(pl:Int)(f:D→Option T)(S:CK R1):zk cx (zx 140 qo f (λ t=>mkB (Sp.elem t)) S) n 139 [.d (.agg [.int .i64 k,.str nm,.sl 5 (T.ds kids),.sl 1 (nms.map .str),.int .i64 pl])] []=zd (f (D.agg [D.int .i64 k,D.str nm,D.sl 5 (T.ds kids),D.sl 1 (List.map D.str nms),D.int .i64 pl])) λ b=>some (Out.ret (V.d (D.bool !Sp.elem b)),[]):=by kernel_rfl
theorem g37(n m:Nat)(k:Int)(nm:List UInt8)(kids:List T)(nms:List (List UInt8))(pl:Int):zk cx (zx 138 (zgp 139) (vc (zi m)) (λ l=>mkB (l.any (λ t=>!Sp.elem t))) (zx 94 qo (zi m) (λ t=>mkB (Sp.right t)) K5)) n 94 [.d (.agg [.int .i64 k,.str nm,.sl 5 (T.ds kids),.sl 1 (nms.map .str),.int .i64 pl])] []=bif decide (k=(1:Int)) then zd (zd (Sp.toC (D.agg [D.int .i64 k,D.str nm,D.sl 5 (T.ds kids),D.sl 1 (List.map D.str nms),D.int .i64 pl],(0:Int),(0:Int),true).fst) λ t=>some (t,(0:Int),(0:Int),true)) λ b=>bif Sp.plain b then za (decide (nm.length≤big)) (some (Out.ret (V.d (D.bool (Sp.named nm))),[])) else some (Out.ret (V.d (D.bool false)),[]) else bif decide (k=(2:Int)) then bif decide (k=(2:Int)) then bif decide ((0:Int)<(↑(List.map D.str nms).length:Int)) then zd (zd (Sp.toC (D.agg [D.int .i64 k,D.str nm,D.sl 5 (T.ds kids),D.sl 1 (List.map D.str nms),D.int .i64 pl],(1:Int),(↑(List.map D.str nms).length:Int),false).fst) λ t=>some (t,(1:Int),(↑(List.map D.str nms).length:Int),false)) λ b=>bif Sp.plain b then za (decide ((0:Int)<(↑(T.ds kids).length:Int))) (ze (T.ds kids) (0:Int).toNat λ y=>ze y.cells 0 λ c=>ze y.cells 1 λ c_1=>ze y.cells 2 λ c_2=>ze y.cells 3 λ c_3=>ze y.cells 4 λ c_4=>zd (zi m (D.agg [c,c_1,c_2,c_3,c_4])) λ b=>some (Out.ret (V.d (D.bool (Sp.right b))),[])) else some (Out.ret (V.d (D.bool false)),[]) else some (Out.ret (V.d (D.bool false)),[]) else bif decide (k=(4:Int)) then bif decide (k=(4:Int)) then bif decide ((↑(List.map D.str nms).length:Int)<(2:Int)) then zd (zd (Sp.toC (D.agg [D.int .i64 k,D.str nm,D.sl 5 (T.ds kids),D.sl 1 (List.map D.str nms),D.int .i64 pl],(2:Int),(↑(List.map D.str nms).length:Int),false).fst) λ t=>some (t,(2:Int),(↑(List.map D.str nms).length:Int),false)) λ b=>bif Sp.plain b then za (decide ((0:Int)<(↑(T.ds kids).length:Int))) (ze (T.ds kids) (0:Int).toNat λ y=>ze y.cells 0 λ c=>ze y.cells 1 λ c_1=>ze y.cells 2 λ c_2=>ze y.cells 3 λ c_3=>ze y.cells 4 λ c_4=>zd (zi m (D.agg [c,c_1,c_2,c_3,c_4])) λ b=>bif Sp.right b then za (decide ((1:Int)<(↑(T.ds kids).length:Int))) (ze (T.ds kids) (1:Int).toNat λ y=>ze y.cells 0 λ c=>ze y.cells 1 λ c_5=>ze y.cells 2 λ c_6=>ze y.cells 3 λ c_7=>ze y.cells 4 λ c_8=>zd (zi m (D.agg [c,c_5,c_6,c_7,c_8])) λ b=>some (Out.ret (V.d (D.bool (Sp.right b))),[])) else some (Out.ret (V.d (D.bool false)),[])) else some (Out.ret (V.d (D.bool false)),[]) else some (Out.ret (V.d (D.bool false)),[]) else bif decide (k=(6:Int)) then bif decide (k=(6:Int)) then zd (zd (Sp.toC (D.agg [D.int .i64 k,D.str nm,D.sl 5 (T.ds kids),D.sl 1 (List.map D.str nms),D.int .i64 pl],(2:Int),(0:Int),false).fst) λ t=>some (t,(2:Int),(0:Int),false)) λ b=>bif Sp.plain b then za (decide ((0:Int)<(↑(T.ds kids).length:Int))) (ze (T.ds kids) (0:Int).toNat λ y=>ze y.cells 0 λ c=>ze y.cells 1 λ c_1=>ze y.cells 2 λ c_2=>ze y.cells 3 λ c_3=>ze y.cells 4 λ c_4=>zd (zi m (D.agg [c,c_1,c_2,c_3,c_4])) λ b=>bif Sp.right b then za (decide ((1:Int)<(↑(T.ds kids).length:Int))) (ze (T.ds kids) (1:Int).toNat λ y=>ze y.cells 0 λ c=>ze y.cells 1 λ c_5=>ze y.cells 2 λ c_6=>ze y.cells 3 λ c_7=>ze y.cells 4 λ c_8=>zd (zi m (D.agg [c,c_5,c_6,c_7,c_8])) λ b=>some (Out.ret (V.d (D.bool (Sp.right b))),[])) else some (Out.ret (V.d (D.bool false)),[])) else some (Out.ret (V.d (D.bool false)),[]) else bif decide (k=(7:Int)) then zd (zd (Sp.toC (D.agg [D.int .i64 k,D.str nm,D.sl 5 (T.ds kids),D.sl 1 (List.map D.str nms),D.int .i64 pl],(2:Int),(0:Int),false).fst) λ t=>some (t,(2:Int),(0:Int),false)) λ b=>bif Sp.plain b then za (decide ((0:Int)<(↑(T.ds kids).length:Int))) (ze (T.ds kids) (0:Int).toNat λ y=>ze y.cells 0 λ c=>ze y.cells 1 λ c_1=>ze y.cells 2 λ c_2=>ze y.cells 3 λ c_3=>ze y.cells 4 λ c_4=>zd (zi m (D.agg [c,c_1,c_2,c_3,c_4])) λ b=>bif Sp.right b then za (decide ((1:Int)<(↑(T.ds kids).length:Int))) (ze (T.ds kids) (1:Int).toNat λ y=>ze y.cells 0 λ c=>ze y.cells 1 λ c_5=>ze y.cells 2 λ c_6=>ze y.cells 3 λ c_7=>ze y.cells 4 λ c_8=>zd (Sp.toC (D.agg [c,c_5,c_6,c_7,c_8])) λ b=>some (Out.ret (V.d (D.bool (Sp.form b))),[])) else some (Out.ret (V.d (D.bool false)),[])) else some (Out.ret (V.d (D.bool false)),[]) else bif decide (k=(10:Int)) then bif decide ((↑(List.map D.str nms).length:Int)=(0:Int)) then bif decide (nm=[]) then zd (vc (zi m) (D.sl 5 (T.ds kids))) λ b=>some (Out.ret (V.d (D.bool !b.any λ t=>!Sp.elem t)),[]) else some (Out.ret (V.d (D.bool false)),[]) else some (Out.ret (V.d (D.bool false)),[]) else some (Out.ret (V.d (D.bool false)),[]) else bif decide (k=(8:Int)) then bif decide (k=(8:Int)) then zd (zd (Sp.toC (D.agg [D.int .i64 k,D.str nm,D.sl 5 (T.ds kids),D.sl 1 (List.map D.str nms),D.int .i64 pl],(2:Int),(0:Int),false).fst) λ t=>some (t,(2:Int),(0:Int),false)) λ b=>bif Sp.plain b then za (decide ((0:Int)<(↑(T.ds kids).length:Int))) (ze (T.ds kids) (0:Int).toNat λ y=>ze y.cells 0 λ c=>ze y.cells 1 λ c_1=>ze y.cells 2 λ c_2=>ze y.cells 3 λ c_3=>ze y.cells 4 λ c_4=>zd (zi m (D.agg [c,c_1,c_2,c_3,c_4])) λ b=>bif Sp.right b then za (decide ((1:Int)<(↑(T.ds kids).length:Int))) (ze (T.ds kids) (1:Int).toNat λ y=>ze y.cells 0 λ c=>ze y.cells 1 λ c_5=>ze y.cells 2 λ c_6=>ze y.cells 3 λ c_7=>ze y.cells 4 λ c_8=>zd (zi m (D.agg [c,c_5,c_6,c_7,c_8])) λ b=>some (Out.ret (V.d (D.bool (Sp.right b))),[])) else some (Out.ret (V.d (D.bool false)),[])) else some (Out.ret (V.d (D.bool false)),[]) else bif decide (k=(7:Int)) then zd (zd (Sp.toC (D.agg [D.int .i64 k,D.str nm,D.sl 5 (T.ds kids),D.sl 1 (List.map D.str nms),D.int .i64 pl],(2:Int),(0:Int),false).fst) λ t=>some (t,(2:Int),(0:Int),false)) λ b=>bif Sp.plain b then za (decide ((0:Int)<(↑(T.ds kids).length:Int))) (ze (T.ds kids) (0:Int).toNat λ y=>ze y.cells 0 λ c=>ze y.cells 1 λ c_1=>ze y.cells 2 λ c_2=>ze y.cells 3 λ c_3=>ze y.cells 4 λ c_4=>zd (zi m (D.agg [c,c_1,c_2,c_3,c_4])) λ b=>bif Sp.right b then za (decide ((1:Int)<(↑(T.ds kids).length:Int))) (ze (T.ds kids) (1:Int).toNat λ y=>ze y.cells 0 λ c=>ze y.cells 1 λ c_5=>ze y.cells 2 λ c_6=>ze y.cells 3 λ c_7=>ze y.cells 4 λ c_8=>zd (Sp.toC (D.agg [c,c_5,c_6,c_7,c_8])) λ b=>some (Out.ret (V.d (D.bool (Sp.form b))),[])) else some (Out.ret (V.d (D.bool false)),[])) else some (Out.ret (V.d (D.bool false)),[]) else bif decide (k=(10:Int)) then bif decide ((↑(List.map D.str nms).length:Int)=(0:Int)) then bif decide (nm=[]) then zd (vc (zi m) (D.sl 5 (T.ds kids))) λ b=>some (Out.ret (V.d (D.bool !b.any λ t=>!Sp.elem t)),[]) else some (Out.ret (V.d (D.bool false)),[]) else some (Out.ret (V.d (D.bool false)),[]) else some (Out.ret (V.d (D.bool false)),[]) else bif decide (k=(9:Int)) then zd (zd (Sp.toC (D.agg [D.int .i64 k,D.str nm,D.sl 5 (T.ds kids),D.sl 1 (List.map D.str nms),D.int .i64 pl],(2:Int),(0:Int),false).fst) λ t=>some (t,(2:Int),(0:Int),false)) λ b=>bif Sp.plain b then za (decide ((0:Int)<(↑(T.ds kids).length:Int))) (ze (T.ds kids) (0:Int).toNat λ y=>ze y.cells 0 λ c=>ze y.cells 1 λ c_1=>ze y.cells 2 λ c_2=>ze y.cells 3 λ c_3=>ze y.cells 4 λ c_4=>zd (zi m (D.agg [c,c_1,c_2,c_3,c_4])) λ b=>bif Sp.right b then za (decide ((1:Int)<(↑(T.ds kids).length:Int))) (ze (T.ds kids) (1:Int).toNat λ y=>ze y.cells 0 λ c=>ze y.cells 1 λ c_5=>ze y.cells 2 λ c_6=>ze y.cells 3 λ c_7=>ze y.cells 4 λ c_8=>zd (zi m (D.agg [c,c_5,c_6,c_7,c_8])) λ b=>some (Out.ret (V.d (D.bool (Sp.right b))),[])) else some (Out.ret (V.d (D.bool false)),[])) else some (Out.ret (V.d (D.bool false)),[]) else bif decide (k=(7:Int)) then zd (zd (Sp.toC (D.agg [D.int .i64 k,D.str nm,D.sl 5 (T.ds kids),D.sl 1 (List.map D.str nms),D.int .i64 pl],(2:Int),(0:Int),false).fst) λ t=>some (t,(2:Int),(0:Int),false)) λ b=>bif Sp.plain b then za (decide ((0:Int)<(↑(T.ds kids).length:Int))) (ze (T.ds kids) (0:Int).toNat λ y=>ze y.cells 0 λ c=>ze y.cells 1 λ c_1=>ze y.cells 2 λ c_2=>ze y.cells 3 λ c_3=>ze y.cells 4 λ c_4=>zd (zi m (D.agg [c,c_1,c_2,c_3,c_4])) λ b=>bif Sp.right b then za (decide ((1:Int)<(↑(T.ds kids).length:Int))) (ze (T.ds kids) (1:Int).toNat λ y=>ze y.cells 0 λ c=>ze y.cells 1 λ c_5=>ze y.cells 2 λ c_6=>ze y.cells 3 λ c_7=>ze y.cells 4 λ c_8=>zd (Sp.toC (D.agg [c,c_5,c_6,c_7,c_8])) λ b=>some (Out.ret (V.d (D.bool (Sp.form b))),[])) else some (Out.ret (V.d (D.bool false)),[])) else some (Out.ret (V.d (D.bool false)),[]) else bif decide (k=(10:Int)) then bif decide ((↑(List.map D.str nms).length:Int)=(0:Int)) then bif decide (nm=[]) then zd (vc (zi m) (D.sl 5 (T.ds kids))) λ b=>some (Out.ret (V.d (D.bool !b.any λ t=>!Sp.elem t)),[]) else some (Out.ret (V.d (D.bool false)),[]) else some (Out.ret (V.d (D.bool false)),[]) else some (Out.ret (V.d (D.bool false)),[]) else bif decide (k=(5:Int)) then bif decide ((↑(List.map D.str nms).length:Int)<(2:Int)) then zd (zd (Sp.toC (D.agg [D.int .i64 k,D.str nm,D.sl 5 (T.ds kids),D.sl 1 (List.map D.str nms),D.int .i64 pl],(2:Int),(↑(List.map D.str nms).length:Int),false).fst) λ t=>some (t,(2:Int),(↑(List.map D.str nms).length:Int),false)) λ b=>bif Sp.plain b then za (decide ((0:Int)<(↑(T.ds kids).length:Int))) (ze (T.ds kids) (0:Int).toNat λ y=>ze y.cells 0 λ c=>ze y.cells 1 λ c_1=>ze y.cells 2 λ c_2=>ze y.cells 3 λ c_3=>ze y.cells 4 λ c_4=>zd (zi m (D.agg [c,c_1,c_2,c_3,c_4])) λ b=>bif Sp.right b then za (decide ((1:Int)<(↑(T.ds kids).length:Int))) (ze (T.ds kids) (1:Int).toNat λ y=>ze y.cells 0 λ c=>ze y.cells 1 λ c_5=>ze y.cells 2 λ c_6=>ze y.cells 3 λ c_7=>ze y.cells 4 λ c_8=>zd (zi m (D.agg [c,c_5,c_6,c_7,c_8])) λ b=>some (Out.ret (V.d (D.bool (Sp.right b))),[])) else some (Out.ret (V.d (D.bool false)),[])) else some (Out.ret (V.d (D.bool false)),[]) else some (Out.ret (V.d (D.bool false)),[]) else bif decide (k=(6:Int)) then bif decide (k=(6:Int)) then zd (zd (Sp.toC (D.agg [D.int .i64 k,D.str nm,D.sl 5 (T.ds kids),D.sl 1 (List.map D.str nms),D.int .i64 pl],(2:Int),(0:Int),false).fst) λ t=>some (t,(2:Int),(0:Int),false)) λ b=>bif Sp.plain b then za (decide ((0:Int)<(↑(T.ds kids).length:Int))) (ze (T.ds kids) (0:Int).toNat λ y=>ze y.cells 0 λ c=>ze y.cells 1 λ c_1=>ze y.cells 2 λ c_2=>ze y.cells 3 λ c_3=>ze y.cells 4 λ c_4=>zd (zi m (D.agg [c,c_1,c_2,c_3,c_4])) λ b=>bif Sp.right b then za (decide ((1:Int)<(↑(T.ds kids).length:Int))) (ze (T.ds kids) (1:Int).toNat λ y=>ze y.cells 0 λ c=>ze y.cells 1 λ c_5=>ze y.cells 2 λ c_6=>ze y.cells 3 λ c_7=>ze y.cells 4 λ c_8=>zd (zi m (D.agg [c,c_5,c_6,c_7,c_8])) λ b=>some (Out.ret (V.d (D.bool (Sp.right b))),[])) else some (Out.ret (V.d (D.bool false)),[])) else some (Out.ret (V.d (D.bool false)),[]) else bif decide (k=(7:Int)) then zd (zd (Sp.toC (D.agg [D.int .i64 k,D.str nm,D.sl 5 (T.ds kids),D.sl 1 (List.map D.str nms),D.int .i64 pl],(2:Int),(0:Int),false).fst) λ t=>some (t,(2:Int),(0:Int),false)) λ b=>bif Sp.plain b then za (decide ((0:Int)<(↑(T.ds kids).length:Int))) (ze (T.ds kids) (0:Int).toNat λ y=>ze y.cells 0 λ c=>ze y.cells 1 λ c_1=>ze y.cells 2 λ c_2=>ze y.cells 3 λ c_3=>ze y.cells 4 λ c_4=>zd (zi m (D.agg [c,c_1,c_2,c_3,c_4])) λ b=>bif Sp.right b then za (decide ((1:Int)<(↑(T.ds kids).length:Int))) (ze (T.ds kids) (1:Int).toNat λ y=>ze y.cells 0 λ c=>ze y.cells 1 λ c_5=>ze y.cells 2 λ c_6=>ze y.cells 3 λ c_7=>ze y.cells 4 λ c_8=>zd (Sp.toC (D.agg [c,c_5,c_6,c_7,c_8])) λ b=>some (Out.ret (V.d (D.bool (Sp.form b))),[])) else some (Out.ret (V.d (D.bool false)),[])) else some (Out.ret (V.d (D.bool false)),[]) else bif decide (k=(10:Int)) then bif decide ((↑(List.map D.str nms).length:Int)=(0:Int)) then bif decide (nm=[]) then zd (vc (zi m) (D.sl 5 (T.ds kids))) λ b=>some (Out.ret (V.d (D.bool !b.any λ t=>!Sp.elem t)),[]) else some (Out.ret (V.d (D.bool false)),[]) else some (Out.ret (V.d (D.bool false)),[]) else some (Out.ret (V.d (D.bool false)),[]) else bif decide (k=(8:Int)) then bif decide (k=(8:Int)) then zd (zd (Sp.toC (D.agg [D.int .i64 k,D.str nm,D.sl 5 (T.ds kids),D.sl 1 (List.map D.str nms),D.int .i64 pl],(2:Int),(0:Int),false).fst) λ t=>some (t,(2:Int),(0:Int),false)) λ b=>bif Sp.plain b then za (decide ((0:Int)<(↑(T.ds kids).length:Int))) (ze (T.ds kids) (0:Int).toNat λ y=>ze y.cells 0 λ c=>ze y.cells 1 λ c_1=>ze y.cells 2 λ c_2=>ze y.cells 3 λ c_3=>ze y.cells 4 λ c_4=>zd (zi m (D.agg [c,c_1,c_2,c_3,c_4])) λ b=>bif Sp.right b then za (decide ((1:Int)<(↑(T.ds kids).length:Int))) (ze (T.ds kids) (1:Int).toNat λ y=>ze y.cells 0 λ c=>ze y.cells 1 λ c_5=>ze y.cells 2 λ c_6=>ze y.cells 3 λ c_7=>ze y.cells 4 λ c_8=>zd (zi m (D.agg [c,c_5,c_6,c_7,c_8])) λ b=>some (Out.ret (V.d (D.bool (Sp.right b))),[])) else some (Out.ret (V.d (D.bool false)),[])) else some (Out.ret (V.d (D.bool false)),[]) else bif decide (k=(7:Int)) then zd (zd (Sp.toC (D.agg [D.int .i64 k,D.str nm,D.sl 5 (T.ds kids),D.sl 1 (List.map D.str nms),D.int .i64 pl],(2:Int),(0:Int),false).fst) λ t=>some (t,(2:Int),(0:Int),false)) λ b=>bif Sp.plain b then za (decide ((0:Int)<(↑(T.ds kids).length:Int))) (ze (T.ds kids) (0:Int).toNat λ y=>ze y.cells 0 λ c=>ze y.cells 1 λ c_1=>ze y.cells 2 λ c_2=>ze y.cells 3 λ c_3=>ze y.cells 4 λ c_4=>zd (zi m (D.agg [c,c_1,c_2,c_3,c_4])) λ b=>bif Sp.right b then za (decide ((1:Int)<(↑(T.ds kids).length:Int))) (ze (T.ds kids) (1:Int).toNat λ y=>ze y.cells 0 λ c=>ze y.cells 1 λ c_5=>ze y.cells 2 λ c_6=>ze y.cells 3 λ c_7=>ze y.cells 4 λ c_8=>zd (Sp.toC (D.agg [c,c_5,c_6,c_7,c_8])) λ b=>some (Out.ret (V.d (D.bool (Sp.form b))),[])) else some (Out.ret (V.d (D.bool false)),[])) else some (Out.ret (V.d (D.bool false)),[]) else bif decide (k=(10:Int)) then bif decide ((↑(List.map D.str nms).length:Int)=(0:Int)) then bif decide (nm=[]) then zd (vc (zi m) (D.sl 5 (T.ds kids))) λ b=>some (Out.ret (V.d (D.bool !b.any λ t=>!Sp.elem t)),[]) else some (Out.ret (V.d (D.bool false)),[]) else some (Out.ret (V.d (D.bool false)),[]) else some (Out.ret (V.d (D.bool false)),[]) else bif decide (k=(9:Int)) then zd (zd (Sp.toC (D.agg [D.int .i64 k,D.str nm,D.sl 5 (T.ds kids),D.sl 1 (List.map D.str nms),D.int .i64 pl],(2:Int),(0:Int),false).fst) λ t=>some (t,(2:Int),(0:Int),false)) λ b=>bif Sp.plain b then za (decide ((0:Int)<(↑(T.ds kids).length:Int))) (ze (T.ds kids) (0:Int).toNat λ y=>ze y.cells 0 λ c=>ze y.cells 1 λ c_1=>ze y.cells 2 λ c_2=>ze y.cells 3 λ c_3=>ze y.cells 4 λ c_4=>zd (zi m (D.agg [c,c_1,c_2,c_3,c_4])) λ b=>bif Sp.right b then za (decide ((1:Int)<(↑(T.ds kids).length:Int))) (ze (T.ds kids) (1:Int).toNat λ y=>ze y.cells 0 λ c=>ze y.cells 1 λ c_5=>ze y.cells 2 λ c_6=>ze y.cells 3 λ c_7=>ze y.cells 4 λ c_8=>zd (zi m (D.agg [c,c_5,c_6,c_7,c_8])) λ b=>some (Out.ret (V.d (D.bool (Sp.right b))),[])) else some (Out.ret (V.d (D.bool false)),[])) else some (Out.ret (V.d (D.bool false)),[]) else bif decide (k=(7:Int)) then zd (zd (Sp.toC (D.agg [D.int .i64 k,D.str nm,D.sl 5 (T.ds kids),D.sl 1 (List.map D.str nms),D.int .i64 pl],(2:Int),(0:Int),false).fst) λ t=>some (t,(2:Int),(0:Int),false)) λ b=>bif Sp.plain b then za (decide ((0:Int)<(↑(T.ds kids).length:Int))) (ze (T.ds kids) (0:Int).toNat λ y=>ze y.cells 0 λ c=>ze y.cells 1 λ c_1=>ze y.cells 2 λ c_2=>ze y.cells 3 λ c_3=>ze y.cells 4 λ c_4=>zd (zi m (D.agg [c,c_1,c_2,c_3,c_4])) λ b=>bif Sp.right b then za (decide ((1:Int)<(↑(T.ds kids).length:Int))) (ze (T.ds kids) (1:Int).toNat λ y=>ze y.cells 0 λ c=>ze y.cells 1 λ c_5=>ze y.cells 2 λ c_6=>ze y.cells 3 λ c_7=>ze y.cells 4 λ c_8=>zd (Sp.toC (D.agg [c,c_5,c_6,c_7,c_8])) λ b=>some (Out.ret (V.d (D.bool (Sp.form b))),[])) else some (Out.ret (V.d (D.bool false)),[])) else some (Out.ret (V.d (D.bool false)),[]) else bif decide (k=(10:Int)) then bif decide ((↑(List.map D.str nms).length:Int)=(0:Int)) then bif decide (nm=[]) then zd (vc (zi m) (D.sl 5 (T.ds kids))) λ b=>some (Out.ret (V.d (D.bool !b.any λ t=>!Sp.elem t)),[]) else some (Out.ret (V.d (D.bool false)),[]) else some (Out.ret (V.d (D.bool false)),[]) else some (Out.ret (V.d (D.bool false)),[]) else bif decide (k=(3:Int)) then bif decide ((0:Int)<(↑(List.map D.str nms).length:Int)) then zd (zd (Sp.toC (D.agg [D.int .i64 k,D.str nm,D.sl 5 (T.ds kids),D.sl 1 (List.map D.str nms),D.int .i64 pl],(1:Int),(↑(List.map D.str nms).length:Int),false).fst) λ t=>some (t,(1:Int),(↑(List.map D.str nms).length:Int),false)) λ b=>bif Sp.plain b then za (decide ((0:Int)<(↑(T.ds kids).length:Int))) (ze (T.ds kids) (0:Int).toNat λ y=>ze y.cells 0 λ c=>ze y.cells 1 λ c_1=>ze y.cells 2 λ c_2=>ze y.cells 3 λ c_3=>ze y.cells 4 λ c_4=>zd (zi m (D.agg [c,c_1,c_2,c_3,c_4])) λ b=>some (Out.ret (V.d (D.bool (Sp.right b))),[])) else some (Out.ret (V.d (D.bool false)),[]) else some (Out.ret (V.d (D.bool false)),[]) else bif decide (k=(4:Int)) then bif decide (k=(4:Int)) then bif decide ((↑(List.map D.str nms).length:Int)<(2:Int)) then zd (zd (Sp.toC (D.agg [D.int .i64 k,D.str nm,D.sl 5 (T.ds kids),D.sl 1 (List.map D.str nms),D.int .i64 pl],(2:Int),(↑(List.map D.str nms).length:Int),false).fst) λ t=>some (t,(2:Int),(↑(List.map D.str nms).length:Int),false)) λ b=>bif Sp.plain b then za (decide ((0:Int)<(↑(T.ds kids).length:Int))) (ze (T.ds kids) (0:Int).toNat λ y=>ze y.cells 0 λ c=>ze y.cells 1 λ c_1=>ze y.cells 2 λ c_2=>ze y.cells 3 λ c_3=>ze y.cells 4 λ c_4=>zd (zi m (D.agg [c,c_1,c_2,c_3,c_4])) λ b=>bif Sp.right b then za (decide ((1:Int)<(↑(T.ds kids).length:Int))) (ze (T.ds kids) (1:Int).toNat λ y=>ze y.cells 0 λ c=>ze y.cells 1 λ c_5=>ze y.cells 2 λ c_6=>ze y.cells 3 λ c_7=>ze y.cells 4 λ c_8=>zd (zi m (D.agg [c,c_5,c_6,c_7,c_8])) λ b=>some (Out.ret (V.d (D.bool (Sp.right b))),[])) else some (Out.ret (V.d (D.bool false)),[])) else some (Out.ret (V.d (D.bool false)),[]) else some (Out.ret (V.d (D.bool false)),[]) else bif decide (k=(6:Int)) then bif decide (k=(6:Int)) then zd (zd (Sp.toC (D.agg [D.int .i64 k,D.str nm,D.sl 5 (T.ds kids),D.sl 1 (List.map D.str nms),D.int .i64 pl],(2:Int),(0:Int),false).fst) λ t=>some (t,(2:Int),(0:Int),false)) λ b=>bif Sp.plain b then za (decide ((0:Int)<(↑(T.ds kids).length:Int))) (ze (T.ds kids) (0:Int).toNat λ y=>ze y.cells 0 λ c=>ze y.cells 1 λ c_1=>ze y.cells 2 λ c_2=>ze y.cells 3 λ c_3=>ze y.cells 4 λ c_4=>zd (zi m (D.agg [c,c_1,c_2,c_3,c_4])) λ b=>bif Sp.right b then za (decide ((1:Int)<(↑(T.ds kids).length:Int))) (ze (T.ds kids) (1:Int).toNat λ y=>ze y.cells 0 λ c=>ze y.cells 1 λ c_5=>ze y.cells 2 λ c_6=>ze y.cells 3 λ c_7=>ze y.cells 4 λ c_8=>zd (zi m (D.agg [c,c_5,c_6,c_7,c_8])) λ b=>some (Out.ret (V.d (D.bool (Sp.right b))),[])) else some (Out.ret (V.d (D.bool false)),[])) else some (Out.ret (V.d (D.bool false)),[]) else bif decide (k=(7:Int)) then zd (zd (Sp.toC (D.agg [D.int .i64 k,D.str nm,D.sl 5 (T.ds kids),D.sl 1 (List.map D.str nms),D.int .i64 pl],(2:Int),(0:Int),false).fst) λ t=>some (t,(2:Int),(0:Int),false)) λ b=>bif Sp.plain b then za (decide ((0:Int)<(↑(T.ds kids).length:Int))) (ze (T.ds kids) (0:Int).toNat λ y=>ze y.cells 0 λ c=>ze y.cells 1 λ c_1=>ze y.cells 2 λ c_2=>ze y.cells 3 λ c_3=>ze y.cells 4 λ c_4=>zd (zi m (D.agg [c,c_1,c_2,c_3,c_4])) λ b=>bif Sp.right b then za (decide ((1:Int)<(↑(T.ds kids).length:Int))) (ze (T.ds kids) (1:Int).toNat λ y=>ze y.cells 0 λ c=>ze y.cells 1 λ c_5=>ze y.cells 2 λ c_6=>ze y.cells 3 λ c_7=>ze y.cells 4 λ c_8=>zd (Sp.toC (D.agg [c,c_5,c_6,c_7,c_8])) λ b=>some (Out.ret (V.d (D.bool (Sp.form b))),[])) else some (Out.ret (V.d (D.bool false)),[])) else some (Out.ret (V.d (D.bool false)),[]) else bif decide (k=(10:Int)) then bif decide ((↑(List.map D.str nms).length:Int)=(0:Int)) then bif decide (nm=[]) then zd (vc (zi m) (D.sl 5 (T.ds kids))) λ b=>some (Out.ret (V.d (D.bool !b.any λ t=>!Sp.elem t)),[]) else some (Out.ret (V.d (D.bool false)),[]) else some (Out.ret (V.d (D.bool false)),[]) else some (Out.ret (V.d (D.bool false)),[]) else bif decide (k=(8:Int)) then bif decide (k=(8:Int)) then zd (zd (Sp.toC (D.agg [D.int .i64 k,D.str nm,D.sl 5 (T.ds kids),D.sl 1 (List.map D.str nms),D.int .i64 pl],(2:Int),(0:Int),false).fst) λ t=>some (t,(2:Int),(0:Int),false)) λ b=>bif Sp.plain b then za (decide ((0:Int)<(↑(T.ds kids).length:Int))) (ze (T.ds kids) (0:Int).toNat λ y=>ze y.cells 0 λ c=>ze y.cells 1 λ c_1=>ze y.cells 2 λ c_2=>ze y.cells 3 λ c_3=>ze y.cells 4 λ c_4=>zd (zi m (D.agg [c,c_1,c_2,c_3,c_4])) λ b=>bif Sp.right b then za (decide ((1:Int)<(↑(T.ds kids).length:Int))) (ze (T.ds kids) (1:Int).toNat λ y=>ze y.cells 0 λ c=>ze y.cells 1 λ c_5=>ze y.cells 2 λ c_6=>ze y.cells 3 λ c_7=>ze y.cells 4 λ c_8=>zd (zi m (D.agg [c,c_5,c_6,c_7,c_8])) λ b=>some (Out.ret (V.d (D.bool (Sp.right b))),[])) else some (Out.ret (V.d (D.bool false)),[])) else some (Out.ret (V.d (D.bool false)),[]) else bif decide (k=(7:Int)) then zd (zd (Sp.toC (D.agg [D.int .i64 k,D.str nm,D.sl 5 (T.ds kids),D.sl 1 (List.map D.str nms),D.int .i64 pl],(2:Int),(0:Int),false).fst) λ t=>some (t,(2:Int),(0:Int),false)) λ b=>bif Sp.plain b then za (decide ((0:Int)<(↑(T.ds kids).length:Int))) (ze (T.ds kids) (0:Int).toNat λ y=>ze y.cells 0 λ c=>ze y.cells 1 λ c_1=>ze y.cells 2 λ c_2=>ze y.cells 3 λ c_3=>ze y.cells 4 λ c_4=>zd (zi m (D.agg [c,c_1,c_2,c_3,c_4])) λ b=>bif Sp.right b then za (decide ((1:Int)<(↑(T.ds kids).length:Int))) (ze (T.ds kids) (1:Int).toNat λ y=>ze y.cells 0 λ c=>ze y.cells 1 λ c_5=>ze y.cells 2 λ c_6=>ze y.cells 3 λ c_7=>ze y.cells 4 λ c_8=>zd (Sp.toC (D.agg [c,c_5,c_6,c_7,c_8])) λ b=>some (Out.ret (V.d (D.bool (Sp.form b))),[])) else some (Out.ret (V.d (D.bool false)),[])) else some (Out.ret (V.d (D.bool false)),[]) else bif decide (k=(10:Int)) then bif decide ((↑(List.map D.str nms).length:Int)=(0:Int)) then bif decide (nm=[]) then zd (vc (zi m) (D.sl 5 (T.ds kids))) λ b=>some (Out.ret (V.d (D.bool !b.any λ t=>!Sp.elem t)),[]) else some (Out.ret (V.d (D.bool false)),[]) else some (Out.ret (V.d (D.bool false)),[]) else some (Out.ret (V.d (D.bool false)),[]) else bif decide (k=(9:Int)) then zd (zd (Sp.toC (D.agg [D.int .i64 k,D.str nm,D.sl 5 (T.ds kids),D.sl 1 (List.map D.str nms),D.int .i64 pl],(2:Int),(0:Int),false).fst) λ t=>some (t,(2:Int),(0:Int),false)) λ b=>bif Sp.plain b then za (decide ((0:Int)<(↑(T.ds kids).length:Int))) (ze (T.ds kids) (0:Int).toNat λ y=>ze y.cells 0 λ c=>ze y.cells 1 λ c_1=>ze y.cells 2 λ c_2=>ze y.cells 3 λ c_3=>ze y.cells 4 λ c_4=>zd (zi m (D.agg [c,c_1,c_2,c_3,c_4])) λ b=>bif Sp.right b then za (decide ((1:Int)<(↑(T.ds kids).length:Int))) (ze (T.ds kids) (1:Int).toNat λ y=>ze y.cells 0 λ c=>ze y.cells 1 λ c_5=>ze y.cells 2 λ c_6=>ze y.cells 3 λ c_7=>ze y.cells 4 λ c_8=>zd (zi m (D.agg [c,c_5,c_6,c_7,c_8])) λ b=>some (Out.ret (V.d (D.bool (Sp.right b))),[])) else some (Out.ret (V.d (D.bool false)),[])) else some (Out.ret (V.d (D.bool false)),[]) else bif decide (k=(7:Int)) then zd (zd (Sp.toC (D.agg [D.int .i64 k,D.str nm,D.sl 5 (T.ds kids),D.sl 1 (List.map D.str nms),D.int .i64 pl],(2:Int),(0:Int),false).fst) λ t=>some (t,(2:Int),(0:Int),false)) λ b=>bif Sp.plain b then za (decide ((0:Int)<(↑(T.ds kids).length:Int))) (ze (T.ds kids) (0:Int).toNat λ y=>ze y.cells 0 λ c=>ze y.cells 1 λ c_1=>ze y.cells 2 λ c_2=>ze y.cells 3 λ c_3=>ze y.cells 4 λ c_4=>zd (zi m (D.agg [c,c_1,c_2,c_3,c_4])) λ b=>bif Sp.right b then za (decide ((1:Int)<(↑(T.ds kids).length:Int))) (ze (T.ds kids) (1:Int).toNat λ y=>ze y.cells 0 λ c=>ze y.cells 1 λ c_5=>ze y.cells 2 λ c_6=>ze y.cells 3 λ c_7=>ze y.cells 4 λ c_8=>zd (Sp.toC (D.agg [c,c_5,c_6,c_7,c_8])) λ b=>some (Out.ret (V.d (D.bool (Sp.form b))),[])) else some (Out.ret (V.d (D.bool false)),[])) else some (Out.ret (V.d (D.bool false)),[]) else bif decide (k=(10:Int)) then bif decide ((↑(List.map D.str nms).length:Int)=(0:Int)) then bif decide (nm=[]) then zd (vc (zi m) (D.sl 5 (T.ds kids))) λ b=>some (Out.ret (V.d (D.bool !b.any λ t=>!Sp.elem t)),[]) else some (Out.ret (V.d (D.bool false)),[]) else some (Out.ret (V.d (D.bool false)),[]) else some (Out.ret (V.d (D.bool false)),[]) else bif decide (k=(5:Int)) then bif decide ((↑(List.map D.str nms).length:Int)<(2:Int)) then zd (zd (Sp.toC (D.agg [D.int .i64 k,D.str nm,D.sl 5 (T.ds kids),D.sl 1 (List.map D.str nms),D.int .i64 pl],(2:Int),(↑(List.map D.str nms).length:Int),false).fst) λ t=>some (t,(2:Int),(↑(List.map D.str nms).length:Int),false)) λ b=>bif Sp.plain b then za (decide ((0:Int)<(↑(T.ds kids).length:Int))) (ze (T.ds kids) (0:Int).toNat λ y=>ze y.cells 0 λ c=>ze y.cells 1 λ c_1=>ze y.cells 2 λ c_2=>ze y.cells 3 λ c_3=>ze y.cells 4 λ c_4=>zd (zi m (D.agg [c,c_1,c_2,c_3,c_4])) λ b=>bif Sp.right b then za (decide ((1:Int)<(↑(T.ds kids).length:Int))) (ze (T.ds kids) (1:Int).toNat λ y=>ze y.cells 0 λ c=>ze y.cells 1 λ c_5=>ze y.cells 2 λ c_6=>ze y.cells 3 λ c_7=>ze y.cells 4 λ c_8=>zd (zi m (D.agg [c,c_5,c_6,c_7,c_8])) λ b=>some (Out.ret (V.d (D.bool (Sp.right b))),[])) else some (Out.ret (V.d (D.bool false)),[])) else some (Out.ret (V.d (D.bool false)),[]) else some (Out.ret (V.d (D.bool false)),[]) else bif decide (k=(6:Int)) then bif decide (k=(6:Int)) then zd (zd (Sp.toC (D.agg [D.int .i64 k,D.str nm,D.sl 5 (T.ds kids),D.sl 1 (List.map D.str nms),D.int .i64 pl],(2:Int),(0:Int),false).fst) λ t=>some (t,(2:Int),(0:Int),false)) λ b=>bif Sp.plain b then za (decide ((0:Int)<(↑(T.ds kids).length:Int))) (ze (T.ds kids) (0:Int).toNat λ y=>ze y.cells 0 λ c=>ze y.cells 1 λ c_1=>ze y.cells 2 λ c_2=>ze y.cells 3 λ c_3=>ze y.cells 4 λ c_4=>zd (zi m (D.agg [c,c_1,c_2,c_3,c_4])) λ b=>bif Sp.right b then za (decide ((1:Int)<(↑(T.ds kids).length:Int))) (ze (T.ds kids) (1:Int).toNat λ y=>ze y.cells 0 λ c=>ze y.cells 1 λ c_5=>ze y.cells 2 λ c_6=>ze y.cells 3 λ c_7=>ze y.cells 4 λ c_8=>zd (zi m (D.agg [c,c_5,c_6,c_7,c_8])) λ b=>some (Out.ret (V.d (D.bool (Sp.right b))),[])) else some (Out.ret (V.d (D.bool false)),[])) else some (Out.ret (V.d (D.bool false)),[]) else bif decide (k=(7:Int)) then zd (zd (Sp.toC (D.agg [D.int .i64 k,D.str nm,D.sl 5 (T.ds kids),D.sl 1 (List.map D.str nms),D.int .i64 pl],(2:Int),(0:Int),false).fst) λ t=>some (t,(2:Int),(0:Int),false)) λ b=>bif Sp.plain b then za (decide ((0:Int)<(↑(T.ds kids).length:Int))) (ze (T.ds kids) (0:Int).toNat λ y=>ze y.cells 0 λ c=>ze y.cells 1 λ c_1=>ze y.cells 2 λ c_2=>ze y.cells 3 λ c_3=>ze y.cells 4 λ c_4=>zd (zi m (D.agg [c,c_1,c_2,c_3,c_4])) λ b=>bif Sp.right b then za (decide ((1:Int)<(↑(T.ds kids).length:Int))) (ze (T.ds kids) (1:Int).toNat λ y=>ze y.cells 0 λ c=>ze y.cells 1 λ c_5=>ze y.cells 2 λ c_6=>ze y.cells 3 λ c_7=>ze y.cells 4 λ c_8=>zd (Sp.toC (D.agg [c,c_5,c_6,c_7,c_8])) λ b=>some (Out.ret (V.d (D.bool (Sp.form b))),[])) else some (Out.ret (V.d (D.bool false)),[])) else some (Out.ret (V.d (D.bool false)),[]) else bif decide (k=(10:Int)) then bif decide ((↑(List.map D.str nms).length:Int)=(0:Int)) then bif decide (nm=[]) then zd (vc (zi m) (D.sl 5 (T.ds kids))) λ b=>some (Out.ret (V.d (D.bool !b.any λ t=>!Sp.elem t)),[]) else some (Out.ret (V.d (D.bool false)),[]) else some (Out.ret (V.d (D.bool false)),[]) else some (Out.ret (V.d (D.bool false)),[]) else bif decide (k=(8:Int)) then bif decide (k=(8:Int)) then zd (zd (Sp.toC (D.agg [D.int .i64 k,D.str nm,D.sl 5 (T.ds kids),D.sl 1 (List.map D.str nms),D.int .i64 pl],(2:Int),(0:Int),false).fst) λ t=>some (t,(2:Int),(0:Int),false)) λ b=>bif Sp.plain b then za (decide ((0:Int)<(↑(T.ds kids).length:Int))) (ze (T.ds kids) (0:Int).toNat λ y=>ze y.cells 0 λ c=>ze y.cells 1 λ c_1=>ze y.cells 2 λ c_2=>ze y.cells 3 λ c_3=>ze y.cells 4 λ c_4=>zd (zi m (D.agg [c,c_1,c_2,c_3,c_4])) λ b=>bif Sp.right b then za (decide ((1:Int)<(↑(T.ds kids).length:Int))) (ze (T.ds kids) (1:Int).toNat λ y=>ze y.cells 0 λ c=>ze y.cells 1 λ c_5=>ze y.cells 2 λ c_6=>ze y.cells 3 λ c_7=>ze y.cells 4 λ c_8=>zd (zi m (D.agg [c,c_5,c_6,c_7,c_8])) λ b=>some (Out.ret (V.d (D.bool (Sp.right b))),[])) else some (Out.ret (V.d (D.bool false)),[])) else some (Out.ret (V.d (D.bool false)),[]) else bif decide (k=(7:Int)) then zd (zd (Sp.toC (D.agg [D.int .i64 k,D.str nm,D.sl 5 (T.ds kids),D.sl 1 (List.map D.str nms),D.int .i64 pl],(2:Int),(0:Int),false).fst) λ t=>some (t,(2:Int),(0:Int),false)) λ b=>bif Sp.plain b then za (decide ((0:Int)<(↑(T.ds kids).length:Int))) (ze (T.ds kids) (0:Int).toNat λ y=>ze y.cells 0 λ c=>ze y.cells 1 λ c_1=>ze y.cells 2 λ c_2=>ze y.cells 3 λ c_3=>ze y.cells 4 λ c_4=>zd (zi m (D.agg [c,c_1,c_2,c_3,c_4])) λ b=>bif Sp.right b then za (decide ((1:Int)<(↑(T.ds kids).length:Int))) (ze (T.ds kids) (1:Int).toNat λ y=>ze y.cells 0 λ c=>ze y.cells 1 λ c_5=>ze y.cells 2 λ c_6=>ze y.cells 3 λ c_7=>ze y.cells 4 λ c_8=>zd (Sp.toC (D.agg [c,c_5,c_6,c_7,c_8])) λ b=>some (Out.ret (V.d (D.bool (Sp.form b))),[])) else some (Out.ret (V.d (D.bool false)),[])) else some (Out.ret (V.d (D.bool false)),[]) else bif decide (k=(10:Int)) then bif decide ((↑(List.map D.str nms).length:Int)=(0:Int)) then bif decide (nm=[]) then zd (vc (zi m) (D.sl 5 (T.ds kids))) λ b=>some (Out.ret (V.d (D.bool !b.any λ t=>!Sp.elem t)),[]) else some (Out.ret (V.d (D.bool false)),[]) else some (Out.ret (V.d (D.bool false)),[]) else some (Out.ret (V.d (D.bool false)),[]) else bif decide (k=(9:Int)) then zd (zd (Sp.toC (D.agg [D.int .i64 k,D.str nm,D.sl 5 (T.ds kids),D.sl 1 (List.map D.str nms),D.int .i64 pl],(2:Int),(0:Int),false).fst) λ t=>some (t,(2:Int),(0:Int),false)) λ b=>bif Sp.plain b then za (decide ((0:Int)<(↑(T.ds kids).length:Int))) (ze (T.ds kids) (0:Int).toNat λ y=>ze y.cells 0 λ c=>ze y.cells 1 λ c_1=>ze y.cells 2 λ c_2=>ze y.cells 3 λ c_3=>ze y.cells 4 λ c_4=>zd (zi m (D.agg [c,c_1,c_2,c_3,c_4])) λ b=>bif Sp.right b then za (decide ((1:Int)<(↑(T.ds kids).length:Int))) (ze (T.ds kids) (1:Int).toNat λ y=>ze y.cells 0 λ c=>ze y.cells 1 λ c_5=>ze y.cells 2 λ c_6=>ze y.cells 3 λ c_7=>ze y.cells 4 λ c_8=>zd (zi m (D.agg [c,c_5,c_6,c_7,c_8])) λ b=>some (Out.ret (V.d (D.bool (Sp.right b))),[])) else some (Out.ret (V.d (D.bool false)),[])) else some (Out.ret (V.d (D.bool false)),[]) else bif decide (k=(7:Int)) then zd (zd (Sp.toC (D.agg [D.int .i64 k,D.str nm,D.sl 5 (T.ds kids),D.sl 1 (List.map D.str nms),D.int .i64 pl],(2:Int),(0:Int),false).fst) λ t=>some (t,(2:Int),(0:Int),false)) λ b=>bif Sp.plain b then za (decide ((0:Int)<(↑(T.ds kids).length:Int))) (ze (T.ds kids) (0:Int).toNat λ y=>ze y.cells 0 λ c=>ze y.cells 1 λ c_1=>ze y.cells 2 λ c_2=>ze y.cells 3 λ c_3=>ze y.cells 4 λ c_4=>zd (zi m (D.agg [c,c_1,c_2,c_3,c_4])) λ b=>bif Sp.right b then za (decide ((1:Int)<(↑(T.ds kids).length:Int))) (ze (T.ds kids) (1:Int).toNat λ y=>ze y.cells 0 λ c=>ze y.cells 1 λ c_5=>ze y.cells 2 λ c_6=>ze y.cells 3 λ c_7=>ze y.cells 4 λ c_8=>zd (Sp.toC (D.agg [c,c_5,c_6,c_7,c_8])) λ b=>some (Out.ret (V.d (D.bool (Sp.form b))),[])) else some (Out.ret (V.d (D.bool false)),[])) else some (Out.ret (V.d (D.bool false)),[]) else bif decide (k=(10:Int)) then bif decide ((↑(List.map D.str nms).length:Int)=(0:Int)) then bif decide (nm=[]) then zd (vc (zi m) (D.sl 5 (T.ds kids))) λ b=>some (Out.ret (V.d (D.bool !b.any λ t=>!Sp.elem t)),[]) else some (Out.ret (V.d (D.bool false)),[]) else some (Out.ret (V.d (D.bool false)),[]) else some (Out.ret (V.d (D.bool false)),[]):=by kernel_rfl
theorem zrg{c x:Bool}{σ:St}:(bif c then some (Out.ret (V.d (D.bool false)),σ) else some (Out.ret (V.d (D.bool x)),σ))=some (Out.ret (V.d (D.bool (!c&&x))),σ):=by cases c <;> rfl
theorem z9h{m:Nat}(hm:∀ t:T,t.depth≤m→t.ok=true→zh cx 94 [.d t.d] []=some (.ret (mkB (Sp.right t)),[]))(t:T)(hd:t.depth≤m)(ho:t.ok=true) :
  zh cx 140 [.d t.d] []=some (.ret (mkB (Sp.elem t)),[]):=by
 have hA:knows cx (zx 94 qo (zi m) (λ t=>mkB (Sp.right t)) K5).S (zh cx):=zj zcr λ a q b _ h hb=>by
  obtain rfl:=qj h;obtain ⟨rfl,h1,h2⟩:=y7 hb;exact hm b h1 h2
 have hE:knows cx (zx 138 (zgp 171) (vc Sp.toC) (λ l=>mkB (l.any (λ t=>!zbn t))) (zx 94 qo (zi m) (λ t=>mkB (Sp.right t)) K5)).S (zh cx):=zj hA λ a q b hd h hb=>by
  obtain rfl:=zb2 h;obtain ⟨l,rfl,h1,h2⟩:=zd6 hb;obtain ⟨rfl,h3⟩:=zfe (λ x t h=>(w7 h).1) h1;exact z65 (λ x t h=>(w7 h).1) zcr z35 b h2 h3
 obtain ⟨k,nm,kids,nms,pl⟩:=t;obtain ⟨h1,h2,h3,h4,h5⟩:=zag ho;have hkd:T.depths kids≤m:=by simp only [T.depth] at hd; omega
 refine zl hE (N:=0) ?_;refine (g65 0 m k nm kids nms pl K5).trans ?_;have hT:∀ t∈kids,zi m t.d=some t:=λ t h=>zc6 hkd h5 h;have hC:∀ t∈kids,vc Sp.toC (.sl 5 (T.ds t.kids))=some t.kids:=λ t h=>by
  obtain ⟨k',nm',kids',nms',pl'⟩:=t;obtain ⟨_,q2,_,_,q5⟩:=zag (qm h5 h);exact zms (λ u hu=>zhp q5 hu) q2
 have e9:Nat.beq 1 (cx.P.cellsOf 9)=true:=by kernel_rfl
 have e26:Nat.beq 5 (cx.P.cellsOf 26)=true:=by kernel_rfl
 simp only [zd,ya,pf,za,cond_true,yv,xk,vm,zcj,zci,zch,zcg,zbk,zzg,zzj,z2k,zzi,zx5,decide_true,e9,e26,Bool.true_or];have hk:k=11∨k ≠ 11:=by omega
 rcases hk with rfl | hk <;> rcases kids with _ | ⟨a,_ | ⟨b,_ | ⟨c,l⟩⟩⟩ <;> rcases nms with _ | ⟨x,nms⟩ <;> simp [Sp.elem,mkB,hT,hC,zdu,zkc, *]
 ·obtain ⟨k,nm',kids',nms',pl'⟩:=a;rcases nms' with _ | ⟨x,nms'⟩ <;> simp [zfc,zv8,zxz,zr4,zfw,zdu,zrg,Bool.and_assoc,List.not_any_eq_all_not]; rfl
 ·obtain ⟨k,nm',kids',nms',pl'⟩:=a;rcases nms' with _ | ⟨x,nms'⟩ <;> simp [zfc,zv8,zxz,zr4,zfw,zdu,zrg,Bool.and_assoc,List.not_any_eq_all_not]; rfl
 ·rw [pb (by omega),pa (by omega)]
  rfl
theorem z9i{m:Nat}(hm:∀ t:T,t.depth≤m→t.ok=true→zh cx 94 [.d t.d] []=some (.ret (mkB (Sp.right t)),[])) :
  knows cx (zx 139 qo (zi m) (λ t=>mkB (!Sp.elem t)) K5).S (zh cx):=zj zcr λ a q b _ h hb=>by
 obtain rfl:=qj h;obtain ⟨rfl,h1,h2⟩:=y7 hb;have h65:knows cx (zx 140 qo (zi m) (λ t=>mkB (Sp.elem t)) K5).S (zh cx):=zj zcr λ a q b _ h hb=>by
  obtain rfl:=qj h;obtain ⟨rfl,h1,h2⟩:=y7 hb;exact z9h hm b h1 h2
 refine zl h65 (N:=0) ?_;obtain ⟨k,nm,kids,nms,pl⟩:=b;refine (g64 0 k nm kids nms pl (zi m) K5).trans ?_;have:=zd8 h1 h2;simp only [T.d] at this;rw [this];rfl
theorem z55:∀ (m:Nat) (t:T),t.depth≤m→t.ok=true→zh cx 94 [.d t.d] []=some (.ret (mkB (Sp.right t)),[])
 | 0,.mk ..,h,_=>by simp [T.depth] at h
 | m+1,.mk k nm kids nms pl,hd,ho=>by
  have hm:∀ t:T,t.depth≤m→t.ok=true→zh cx 94 [.d t.d] []=some (.ret (mkB (Sp.right t)),[]):=λ t h1 h2=>z55 m t h1 h2;have hA:knows cx (zx 94 qo (zi m) (λ t=>mkB (Sp.right t)) K5).S (zh cx):=zj zcr λ a q b _ h hb=>by
   obtain rfl:=qj h;obtain ⟨rfl,h1,h2⟩:=y7 hb;exact hm b h1 h2
  have hR:knows cx (zx 138 (zgp 139) (vc (zi m)) (λ l=>mkB (l.any (λ t=>!Sp.elem t))) (zx 94 qo (zi m) (λ t=>mkB (Sp.right t)) K5)).S (zh cx):=zj hA λ a q b hd h hb=>by
   obtain rfl:=zb2 h;obtain ⟨l,rfl,h1,h2⟩:=zd6 hb;obtain ⟨rfl,h3⟩:=zfe (λ x t h=>(y7 h).1) h1;exact z64 (λ x t h=>(y7 h).1) zcr (z9i hm) b h2 h3
  obtain ⟨h1,h2,h3,h4,h5⟩:=zag ho;have hkd:=za3 hd;refine zl hR (N:=0) ?_;refine (g37 0 m k nm kids nms pl).trans ?_;have hC:Sp.toC (D.agg [D.int .i64 k,D.str nm,D.sl 5 (T.ds kids),D.sl 1 (List.map D.str nms),D.int .i64 pl])=some (.mk k nm kids nms pl):=zjb ho;have hT:∀ t∈kids,zi m t.d=some t:=λ t h=>zc6 hkd h5 h;have hTC:∀ t∈kids,Sp.toC t.d=some t:=λ t h=>zhp h5 h;have hts:vc (zi m) (.sl 5 (T.ds kids))=some kids:=zms hT h2;simp only [hC,hts,zd,ya,pf,zey h1,za,cond_true,yv,xk,vm,zcj,zci,zch,zcg,zbk,Sp.plain,zzg,zzj,z2k,zzi,zx5,decide_true,Bool.and_true];clear hC hR hA ho hd hm hts;have hk:k=1∨k=2∨k=3∨k=4∨k=5∨k=6∨k=7∨k=8∨k=9∨k=10∨(k ≠ 1∧k ≠ 2∧k ≠ 3∧k ≠ 4∧k ≠ 5∧k ≠ 6∧k ≠ 7∧k ≠ 8∧k ≠ 9∧k ≠ 10):=by omega
  rcases hk with rfl | rfl | rfl | rfl | rfl | rfl | rfl | rfl | rfl | rfl | ⟨q1,q2,q3,q4,q5,q6,q7,q8,q9,q10⟩
  all_goals simp only [*,Int.reduceEq,decide_true,decide_false,cond_true,cond_false]
  all_goals rcases kids with _ | ⟨a,_ | ⟨b,_ | ⟨c,l⟩⟩⟩
  all_goals rcases nms with _ | ⟨x,_ | ⟨y,nms⟩⟩
  all_goals simp [Sp.right,mkB,hT,hTC,zdu,zkc,Bool.and_assoc,List.not_any_eq_all_not,zhx]
  all_goals first | (simp [*]; done) | (rw [pb (p:=((nms.length:Int)+1+1<2)) (by omega),pb (p:=nms.length+1+1<2) (by omega)]; simp)
theorem z8x:Nat.beq 1 (cx.P.cellsOf 9)=true:=by kernel_rfl
theorem zp0:Nat.beq 5 (cx.P.cellsOf 26)=true:=by kernel_rfl
def adV:Bool→V | true=>.ptr 0 0 | false=>.d .nilptr
def psS(u:Bool)(L:List D):St:=[(0,.val 187695107 (.agg [adV u,.sl 6291457 L 1,.d (.bool false)])),(1,.tok L.length)]
def Sp.app(L:List D)(s:List UInt8):List D:=L++s.map λ b=>.int .u8 b.toNat
def Sp.room(L:List D)(s:List UInt8):Bool:=decide (L.length+s.length≤65536)
def Sp.fit(n:Nat)(L:List D):Bool:=decide (n=L.length)
theorem zz(L:List D):Sp.fit L.length L=true:=pa rfl
theorem xa(L:List D)(s t:List UInt8):Sp.app (Sp.app L s) t=Sp.app L (s++t):=by simp [Sp.app]
theorem xm(L:List D)(s:List UInt8):(Sp.app L s).length=L.length+s.length:=by simp [Sp.app]
theorem zez{L:List D}{s t:List UInt8}(h:Sp.room L (s++t)=true):Sp.room L s=true∧Sp.room (Sp.app L s) t=true:=by
 simp only [Sp.room,decide_eq_true_eq,pe,xm] at h ⊢;omega
def zz5:List D→Option (List UInt8)
 | []=>some []
 | .str s::r=>(match zz5 r with | some t=>some (s++t) | none=>none)
 | _::_=>none
def psD:St→Option (List D×Nat)
 | [(0,.val 187695107 (.agg [.ptr 0 0,.sl 6291457 L 1,.d (.bool false)])),(1,.tok n)]=>some (L,n)
 | [(0,.val 187695107 (.agg [.d .nilptr,.sl 6291457 L 1,.d (.bool false)])),(1,.tok n)]=>some (L,n)
 | _=>none
theorem zce{σ:St}{L:List D}{n:Nat}(h:psD σ=some (L,n))(hn:Sp.fit n L=true):∃ u,σ=psS u L:=by
 simp only [Sp.fit,decide_eq_true_eq] at hn;subst hn;unfold psD at h;split at h
 ·cases h; exact ⟨true,rfl⟩
 ·cases h; exact ⟨false,rfl⟩
 ·cases h
def prK{α:Type}(f:Nat)(dec:List V→Option α)(sp:α→Option (List UInt8))(S:CK R1):CK R1:=
 more f (λ a σ=>match dec a,psD σ with | some q,some p=>some (q,p) | _,_=>none)
  (λ K q=>match q with | (x,L,n)=>zd (sp x) λ s=>za (Sp.fit n L) (za (Sp.room L s) (K (.ret (.tup [])) (psS true (Sp.app L s)))))
  (λ K q=>by
   obtain ⟨x,L,n⟩:=q;simp only;rw [vl];congr 1;funext s;simp only [za,x7];rfl) S
theorem qf{α:Type}{f:Nat}{dec:List V→Option α}{sp:α→Option (List UInt8)}{S:CK R1}(hS:knows cx S.S (zh cx))
  (hf:∀ a q s u L,dec a=some q→sp q=some s→Sp.room L s=true→zh cx f a (psS u L)=some (.ret (.tup []),psS true (Sp.app L s))):knows cx (prK f dec sp S).S (zh cx):=
 wi hS λ a σ q r hd h=>by
  obtain ⟨q,L,n⟩:=q;simp only at hd h;split at hd
  ·rename_i q' p hq hp;cases hd;obtain ⟨s,hs,h⟩:=zb h;obtain ⟨h1,h⟩:=zc h;obtain ⟨h2,h⟩:=zc h;cases h;obtain ⟨u,rfl⟩:=zce hp h1;exact hf a q s u L hq hs h2
  ·cases hd
theorem g66(n:Nat)(S:CK R1)(L:List D):zk cx S n 158 [.ptr 0 0] (psS true L)=some (Out.ret (V.d (D.int .i64 (↑L.length:Int))),[(0,Ob.val 187695107 (V.agg [V.ptr 0 0,V.sl 6291457 L 1,V.d (D.bool false)])),(1,Ob.tok L.length)]):=by kernel_rfl
theorem g89(n:Nat)(S:CK R1)(L:List D):zk cx S n 191 [.ptr 0 0] (psS true L)=some (Out.ret (V.tup []),[(0,Ob.val 187695107 (V.agg [V.ptr 0 0,V.sl 6291457 L 1,V.d (D.bool false)])),(1,Ob.tok L.length)]):=by kernel_rfl
theorem yb6(n:Nat)(S:CK R1)(L:List D):zk cx S n 191 [.ptr 0 0] (psS false L)=some (Out.ret (V.tup []),[(0,Ob.val 187695107 (V.agg [V.ptr 0 0,V.sl 6291457 L 1,V.d (D.bool false)])),(1,Ob.tok L.length)]):=by kernel_rfl
theorem yb9(n:Nat)(S:CK R1)(L:List D):zk cx S n 158 [.ptr 0 0] (psS false L)=some (.ret (.d (.int .i64 L.length)),psS false L):=by kernel_rfl
def zwt:List V→Option Unit | [.ptr 0 0]=>some () | _=>none
theorem zhz{a:List V}{x}(h:zwt a=some x):a=[.ptr 0 0]:=by
 unfold zwt at h;split at h
 ·rfl
 ·cases h
def z3h:List V→Option (List UInt8) | [.ptr 0 0,.d (.str s)]=>some s | _=>none
theorem zws{a:List V}{s}(h:z3h a=some s):a=[.ptr 0 0,.d (.str s)]:=by
 unfold z3h at h;split at h
 ·cases h; rfl
 ·cases h
def K89:CK R1:=more 191 (λ a σ=>match zwt a,psD σ with | some _,some p=>some p | _,_=>none) (λ K q=>match q with | (L,n)=>za (Sp.fit n L) (K (.ret (.tup [])) (psS true L)))
  (λ K q=>by obtain ⟨L,n⟩:=q; simp only [za,x7]; rfl) (CK.plain zo)
theorem z0r:knows cx K89.S (zh cx):=wi zq λ a σ q r hd h=>by
 obtain ⟨L,n⟩:=q;simp only at hd h;split at hd
 ·rename_i p ha hp;cases hd;obtain ⟨h1,h⟩:=zc h;cases h;obtain rfl:=zhz ha;obtain ⟨u,rfl⟩:=zce hp h1;refine zl zq (N:=0) ?_;cases u
  ·exact yb6 0 _ L
  ·exact g89 0 _ L
 ·cases hd
theorem g67(n:Nat)(L:List D)(s:List UInt8):zk cx K89 n 159 [.ptr 0 0,.d (.str s)] (psS true L)=za (Sp.fit L.length L) (za (decide (L.length=L.length)&&decide (L.length+(List.map (λ b=>D.int IntKind.u8 (↑b.toNat:Int)) s).length≤4294967296)) (some (Out.ret (V.tup [V.d (D.int .i64 (↑s.length:Int)),V.d D.nilIface]),[(0,Ob.val 187695107 (V.agg [V.ptr 0 0,V.sl 6291457 (L++List.map (λ b=>D.int IntKind.u8 (↑b.toNat:Int)) s) 1,V.d (D.bool false)])),(1,Ob.tok (L.length+(List.map (λ b=>D.int IntKind.u8 (↑b.toNat:Int)) s).length))]))):=by kernel_rfl
theorem yb8(n:Nat)(L:List D)(s:List UInt8):zk cx K89 n 159 [.ptr 0 0,.d (.str s)] (psS false L)=za (Sp.fit L.length L) (za (decide (L.length=L.length)&&decide (L.length+(List.map (λ b=>D.int IntKind.u8 (↑b.toNat:Int)) s).length≤4294967296)) (some (Out.ret (V.tup [V.d (D.int .i64 (↑s.length:Int)),V.d D.nilIface]),[(0,Ob.val 187695107 (V.agg [V.ptr 0 0,V.sl 6291457 (L++List.map (λ b=>D.int IntKind.u8 (↑b.toNat:Int)) s) 1,V.d (D.bool false)])),(1,Ob.tok (L.length+(List.map (λ b=>D.int IntKind.u8 (↑b.toNat:Int)) s).length))]))):=by kernel_rfl
def K67:CK R1:=more 159 (λ a σ=>match z3h a,psD σ with | some s,some p=>some (s,p) | _,_=>none)
  (λ K q=>match q with | (s,L,n)=>za (Sp.fit n L) (za (Sp.room L s) (K (.ret (.tup [.d (.int .i64 s.length),.d .nilIface])) (psS true (Sp.app L s)))))
  (λ K q=>by obtain ⟨s,L,n⟩:=q; simp only [za,x7]; rfl)
 (more 158 (λ a σ=>match zwt a,psD σ with | some _,some p=>some (p,σ) | _,_=>none) (λ K q=>match q with | ((L,n),σ)=>za (Sp.fit n L) (K (.ret (.d (.int .i64 L.length))) σ))
  (λ K q=>by obtain ⟨⟨L,n⟩,σ⟩:=q; simp only [za,x7]; rfl) (CK.plain zo))
theorem z9g(u:Bool)(L:List D)(s:List UInt8)(h:Sp.room L s=true):zh cx 159 [.ptr 0 0,.d (.str s)] (psS u L)=some (.ret (.tup [.d (.int .i64 s.length),.d .nilIface]),psS true (Sp.app L s)):=by
 have h1:decide (L.length+(List.map (λ b:UInt8=>D.int IntKind.u8 (b.toNat:Int)) s).length≤4294967296)=true:=pa (by simp only [Sp.room,decide_eq_true_eq] at h; rw [pf]; omega)
 have e:(Sp.app L s).length=L.length+(List.map (λ b:UInt8=>D.int IntKind.u8 (b.toNat:Int)) s).length:=by simp [Sp.app]
 refine zl z0r (N:=0) ?_;cases u
 ·rw [yb8,h1];simp only [zz,za,cond_true,decide_true,Bool.and_self];rw [psS,e]; rfl
 ·rw [g67,h1];simp only [zz,za,cond_true,decide_true,Bool.and_self];rw [psS,e]; rfl
theorem z0x:knows cx K67.S (zh cx):=by
 have h66:knows cx (more 158 (λ a σ=>match zwt a,psD σ with | some _,some p=>some (p,σ) | _,_=>none) (λ K q=>match q with | ((L,n),σ)=>za (Sp.fit n L) (K (.ret (.d (.int .i64 L.length))) σ))
  (λ K q=>by obtain ⟨⟨L,n⟩,σ⟩:=q; simp only [za,x7]; rfl) (CK.plain zo)).S (zh cx):=wi zq λ a σ q r hd h=>by
  obtain ⟨⟨L,n⟩,τ⟩:=q;simp only at hd h;split at hd
  ·rename_i p ha hp;cases hd;obtain ⟨h1,h⟩:=zc h;cases h;obtain rfl:=zhz ha;obtain ⟨u,rfl⟩:=zce hp h1;refine zl zq (N:=0) ?_;cases u
   ·exact yb9 0 _ _
   ·exact g66 0 _ _
  ·cases hd
 exact wi h66 λ a σ q r hd h=>by
  obtain ⟨s,L,n⟩:=q;simp only at hd h;split at hd
  ·rename_i s' p ha hp;cases hd;obtain ⟨h1,h⟩:=zc h;obtain ⟨h2,h⟩:=zc h;cases h;obtain rfl:=zws ha;obtain ⟨u,rfl⟩:=zce hp h1;exact z9g u L s h2
  ·cases hd
theorem g38(n:Nat)(L:List D)(l:List D):zk cx K67 n 127 [.ptr 0 0,.d (.sl 1 l)] (psS true L)=LP cx K67 n 127 2 1 n [(0,V.ptr 0 0),(6,V.d (D.sl 1 l)),(7,V.d (D.int .i64 (↑l.length:Int))),(8,V.d (D.int .i64 (0:Int)))] [(0,Ob.val 187695107 (V.agg [V.ptr 0 0,V.sl 6291457 L 1,V.d (D.bool false)])),(1,Ob.tok L.length)] (AK cx K67 n 127 2 1 (EK cx 127 2)):=by kernel_rfl
theorem yce(n:Nat)(L:List D)(l:List D):zk cx K67 n 127 [.ptr 0 0,.d (.sl 1 l)] (psS false L)=LP cx K67 n 127 2 1 n [(0,V.ptr 0 0),(6,V.d (D.sl 1 l)),(7,V.d (D.int .i64 (↑l.length:Int))),(8,V.d (D.int .i64 (0:Int)))] [(0,Ob.val 187695107 (V.agg [V.d D.nilptr,V.sl 6291457 L 1,V.d (D.bool false)])),(1,Ob.tok L.length)] (AK cx K67 n 127 2 1 (EK cx 127 2)):=by kernel_rfl
theorem l38(n k:Nat)(L:List D)(l:List (List UInt8))(i:Int):LP cx K67 n 127 2 1 (k+1) [(0,.ptr 0 0),(6,.d (.sl 1 (l.map .str))),(7,.d (.int .i64 (l.length:Int))),(8,.d (.int .i64 i))] (psS true L) (AK cx K67 n 127 2 1 (EK cx 127 2))=bif decide (i<(↑l.length:Int)) then za (decide (0≤i)&&decide (i<(↑(List.map D.str l).length:Int))) (ze (List.map D.str l) i.toNat λ y=>ze y.cells 0 λ c=>match c with
 | D.str s=>za (Sp.fit L.length L) (bif decide ((65536:Int)<IntKind.i64.wrap ((↑L.length:Int)+(↑s.length:Int))) then some (Out.ret (V.tup []),[(0,Ob.val 187695107 (V.agg [V.ptr 0 0,V.sl 6291457 L 1,V.d (D.bool true)])),(1,Ob.tok L.length)]) else za (Sp.fit L.length L) (za (Sp.room L s) (LP cx K67 n 127 2 1 k [(0,V.ptr 0 0),(6,V.d (D.sl 1 (List.map D.str l))),(7,V.d (D.int .i64 (↑l.length:Int))),(8,V.d (D.int .i64 (IntKind.i64.wrap (i+(1:Int)))))] [(0,Ob.val 187695107 (V.agg [V.ptr 0 0,V.sl 6291457 (Sp.app L s) 1,V.d (D.bool false)])),(1,Ob.tok (Sp.app L s).length)] (AK cx K67 n 127 2 1 (EK cx 127 2)))))
 | x=>none) else some (Out.ret (V.tup []),[(0,Ob.val 187695107 (V.agg [V.ptr 0 0,V.sl 6291457 L 1,V.d (D.bool false)])),(1,Ob.tok L.length)]):=by kernel_rfl
theorem z91(n k:Nat)(L:List D)(l:List (List UInt8))(i:Int):LP cx K67 n 127 2 1 (k+1) [(0,.ptr 0 0),(6,.d (.sl 1 (l.map .str))),(7,.d (.int .i64 (l.length:Int))),(8,.d (.int .i64 i))] (psS false L) (AK cx K67 n 127 2 1 (EK cx 127 2))=bif decide (i<(↑l.length:Int)) then za (decide (0≤i)&&decide (i<(↑(List.map D.str l).length:Int))) (ze (List.map D.str l) i.toNat λ y=>ze y.cells 0 λ c=>match c with
 | D.str s=>za (Sp.fit L.length L) (bif decide ((65536:Int)<IntKind.i64.wrap ((↑L.length:Int)+(↑s.length:Int))) then some (Out.ret (V.tup []),[(0,Ob.val 187695107 (V.agg [V.d D.nilptr,V.sl 6291457 L 1,V.d (D.bool true)])),(1,Ob.tok L.length)]) else za (Sp.fit L.length L) (za (Sp.room L s) (LP cx K67 n 127 2 1 k [(0,V.ptr 0 0),(6,V.d (D.sl 1 (List.map D.str l))),(7,V.d (D.int .i64 (↑l.length:Int))),(8,V.d (D.int .i64 (IntKind.i64.wrap (i+(1:Int)))))] [(0,Ob.val 187695107 (V.agg [V.ptr 0 0,V.sl 6291457 (Sp.app L s) 1,V.d (D.bool false)])),(1,Ob.tok (Sp.app L s).length)] (AK cx K67 n 127 2 1 (EK cx 127 2)))))
 | x=>none) else some (Out.ret (V.tup []),[(0,Ob.val 187695107 (V.agg [V.d D.nilptr,V.sl 6291457 L 1,V.d (D.bool false)])),(1,Ob.tok L.length)]):=by kernel_rfl
theorem zmn(L:List D):Sp.app L []=L:=by simp [Sp.app]
theorem ztp{L:List D}{s:List UInt8}(h:Sp.room L s=true):decide ((65536:Int)<IntKind.i64.wrap ((L.length:Int)+(s.length:Int)))=false:=by
 simp only [Sp.room,decide_eq_true_eq] at h;rw [IntWalk.i64_in _ (by omega)]
 exact pb (by omega)
abbrev L38 (n k:Nat) (u:Bool) (L:List D) (l:List (List UInt8)) (i:Int):Option R1:=
 LP cx K67 n 127 2 1 k [(0,.ptr 0 0),(6,.d (.sl 1 (l.map .str))),(7,.d (.int .i64 (l.length:Int))),(8,.d (.int .i64 i))] (psS u L) (AK cx K67 n 127 2 1 (EK cx 127 2))
theorem z2a(n:Nat)(l:List (List UInt8))(hl:l.length<4294967296):∀ (r:List (List UInt8)) (j k:Nat) (u:Bool) (L:List D),l.drop j=r→j≤l.length→r.length<k→Sp.room L r.flatten=true →
  L38 n k u L l j=some (.ret (.tup []),psS (u||!r.isEmpty) (Sp.app L r.flatten))
 | [],j,k,u,L,hd,hj,hk,hr=>by
  obtain ⟨k,rfl⟩:∃ i,k=i+1:=⟨k - 1,by omega⟩
  have:l.length≤j:=by simpa using hd
  obtain rfl:j=l.length:=by omega
  simp only [L38,List.flatten_nil,zmn];cases u
  ·rw [z91,xu]; rfl
  ·rw [l38,xu]; rfl
 | s::r,j,k,u,L,hd,hj,hk,hr=>by
  obtain ⟨k,rfl⟩:∃ i,k=i+1:=⟨k - 1,by omega⟩
  obtain ⟨h1,h2,h3⟩:=zca hd;rw [List.flatten_cons] at hr;obtain ⟨hr1,hr2⟩:=zez hr;have ih:=z2a n l hl r (j+1) k true (Sp.app L s) h3 h1 (by simp at hk; omega) hr2
  simp only [L38,Bool.true_or] at ih;have e:psS true (Sp.app (Sp.app L s) r.flatten)=psS (u||!(s::r).isEmpty) (Sp.app L (s::r).flatten):=by
   rw [xa,List.flatten_cons]; cases u <;> rfl
  rw [←e];simp only [L38];cases u
  ·rw [z91,pf,yh h1,xe,qg,pm,h2,wu h1 hl];simp only [cond_true,za,zd,Bool.and_self,D.cells,vm,zz,ztp hr1,cond_false,hr1];exact ih
  ·rw [l38,pf,yh h1,xe,qg,pm,h2,wu h1 hl];simp only [cond_true,za,zd,Bool.and_self,D.cells,vm,zz,ztp hr1,cond_false,hr1];exact ih
theorem z54(u:Bool)(L:List D)(l:List (List UInt8))(hl:l.length<4294967296)(hne:l ≠ [])(hr:Sp.room L l.flatten=true) :
  zh cx 127 [.ptr 0 0,.d (.sl 1 (l.map .str))] (psS u L)=some (.ret (.tup []),psS true (Sp.app L l.flatten)):=by
 have h:=z2a (l.length+1) l hl l 0 (l.length+1) u L rfl (Nat.zero_le _) (by omega) hr
 simp only [L38] at h;have e:(u||!l.isEmpty)=true:=by cases l; exact absurd rfl hne; cases u <;> rfl
 rw [e] at h;refine zl z0x (N:=l.length+1) ?_;cases u
 ·rw [yce,pf]; exact h
 ·rw [g38,pf]; exact h
theorem zla:∀ {l:List D} {s:List UInt8},zz5 l=some s→∃ m:List (List UInt8),l=m.map .str∧s=m.flatten
 | [],s,h=>by cases h; exact ⟨[],rfl,rfl⟩
 | x::r,s,h=>by
  unfold zz5 at h;split at h
  ·rename_i he; cases he
  ·rename_i t q he;cases he;split at h
   ·rename_i u hu;cases h;obtain ⟨m,rfl,rfl⟩:=zla hu;exact ⟨t::m,rfl,rfl⟩
   ·cases h
  ·cases h
def zoc:List V→Option (List D) | [.ptr 0 0,.d (.sl 1 (a::l))]=>bif Nat.ble l.length 100 then some (a::l) else none | _=>none
theorem zl2{a:List V}{l}(h:zoc a=some l):a=[.ptr 0 0,.d (.sl 1 l)]∧l ≠ []∧l.length<4294967296:=by
 unfold zoc at h;split at h
 ·rename_i x r;cases hc:Nat.ble r.length 100 <;> rw [hc] at h
  ·cases h
  ·cases h;have:=pq hc;exact ⟨rfl,by simp,by simp; omega⟩
 ·cases h
def K38:CK R1:=prK 127 zoc zz5 (CK.plain zo)
theorem z01:knows cx K38.S (zh cx):=qf zq λ a q s u L h hs hr=>by
 obtain ⟨rfl,h1,h2⟩:=zl2 h;obtain ⟨m,rfl,rfl⟩:=zla hs;exact z54 u L m (by simpa using h2) (by intro e; rw [e] at h1; exact h1 rfl) hr
def yp(l:List (List UInt8))(sep:List UInt8):List UInt8:=Lib.join l sep
def yat:List V→Option (D×List UInt8) | [.d x,.d (.str s)]=>some (x,s) | _=>none
def zlf(q:D×List UInt8):Option (List (List UInt8)×List UInt8):=match zig q.1 with | some l=>bif decide ((Lib.join l q.2).length≤140737488355328) then some (l,q.2) else none | none=>none
theorem z9a(l:List (List UInt8))(sep:List UInt8)(h1:yj l=true)(h2:(Lib.join l sep).length≤140737488355328):zh cx 192 [.d (.sl 1 (l.map .str)),.d (.str sep)] []=some (.ret (.d (.str (yp l sep))),[]):=by
 refine zg0 (n:=1) ?_;have e:cx.nat 192 [.d (.sl 1 (l.map .str)),.d (.str sep)] []=some (.ret (.d (.str (Lib.join l sep))),[]):=by
  have e0:cx.nat 192 [.d (.sl 1 (l.map .str)),.d (.str sep)] []=zjy [.d (.sl 1 (l.map .str)),.d (.str sep)] []:=by kernel_rfl
  rw [e0];simp only [zjy,zyu,zd];rw [pa h2,pa (by have:=xf h1; omega)]
  rfl
 show zah cx (wh cx 0) 0 192 _ []=_;unfold zah;rw [e];rfl
def K90:CK R1:=zx 192 yat zlf (λ q=>mkS (yp q.1 q.2)) K38
theorem z0p:knows cx K90.S (zh cx):=zj z01 λ a q b hd h hb=>by
 obtain ⟨x,s⟩:=q;unfold yat at h;split at h
 ·cases h;unfold zlf at hb;split at hb
  ·rename_i l hl;simp only at hl hb;cases hc:decide ((Lib.join l s).length≤140737488355328) <;> rw [hc] at hb
   ·cases hb
   ·cases hb;obtain ⟨rfl,h1,h2⟩:=zr3 hl;exact z9a l s h1 (pc hc)
  ·cases hb
 ·cases h
def yw(b:Bool)(s:List UInt8):List UInt8:=bif b then [40]++s++[41] else s
def zex(k:Int):Int:=bif decide (k=2)||decide (k=3)||decide (k=4)||decide (k=5) then 0 else bif decide (k=6)||decide (k=7) then 1 else 2
def zb5(k:Int):Int:=bif decide (k=14) then 0 else bif decide (k=15) then 1 else 2
def Sp.at(l:List (List UInt8))(i:Nat):List UInt8:=l.getD i []
mutual
def xz:T→List UInt8
 | .mk k nm kids _ _=>bif decide (k=16) then [126]++Sp.at (zb6 kids 2) 0 else bif decide (k=15) then Sp.at (zb6 kids 1) 0++[32,47,92,32]++Sp.at (zb6 kids 2) 1
   else bif decide (k=14) then Sp.at (zb6 kids 0) 0++[32,92,47,32]++Sp.at (zb6 kids 1) 1 else nm
def zb6:List T→Int→List (List UInt8)
 | [],_=>[]
 | t::l,a=>yw (decide (zb5 t.k<a)) (xz t)::zb6 l a
end
def za5(t:T)(a:Int):List UInt8:=yw (decide (zb5 t.k<a)) (xz t)
def zd1(t:T):List UInt8:=[40]++t.nm++[61]++Sp.at t.nms 0++[41]
def zhf(t:T):List UInt8:=(bif t.kids.isEmpty then [49] else [])++(t.kids.map zd1).flatten
def zbo(l:List T):Bool:=match l with | .mk k _ (.mk k' _ _ _ _::_) _ _::_=>decide (k=9)&&decide (k'=1) | _=>false
mutual
def Sp.bare:T→List UInt8
 | .mk k nm kids nms _=>bif decide (k=1) then nm
  else bif decide (k=2) then [92]++yp nms [32]++[46,32]++Sp.at (Sp.texts kids 0) 0
  else bif decide (k=3) then [60]++yp nms [32]++[62,32]++Sp.at (Sp.texts kids 0) 0
  else bif decide (k=4) then (bif decide (nms.length=1) then [40]++Sp.at nms 0++[32,58,32]++Sp.at (Sp.texts kids 0) 0++[41] else yw (zbo kids) (Sp.at (Sp.texts kids 1) 0))++[32,45,62,32]++Sp.at (Sp.texts kids 0) 1
  else bif decide (k=5) then (bif decide (nms.length=1) then [40]++Sp.at nms 0++[32,58,32]++Sp.at (Sp.texts kids 0) 0++[41] else yw (zbo kids) (Sp.at (Sp.texts kids 1) 0))++[32,42,32]++Sp.at (Sp.texts kids 0) 1
  else bif decide (k=6) then Sp.at (Sp.texts kids 1) 0++[32]++Sp.at (Sp.texts kids 2) 1
  else bif decide (k=7) then Sp.at (Sp.texts kids 1) 0++[32,64,32]++(match kids with | _::b::_=>za5 b 2 | _=>[])
  else bif decide (k=8) then [40]++Sp.at (Sp.texts kids 0) 0++[44,32]++Sp.at (Sp.texts kids 0) 1++[41]
  else bif decide (k=9) then [40]++Sp.at (Sp.texts kids 0) 0++[32,58,32]++Sp.at (Sp.texts kids 0) 1++[41]
  else [91]++zas true kids++[93]
def Sp.texts:List T→Int→List (List UInt8)
 | [],_=>[]
 | t::l,a=>yw (decide (zex t.k<a)) (Sp.bare t)::Sp.texts l a
def zlh:T→List UInt8
 | .mk _ _ kids _ _=>(match kids with | f::_=>zhf f | _=>[])++(bif decide (kids.length=2) then [32,45,62,32]++Sp.at (Sp.texts kids 0) 1 else [])
def zas:Bool→List T→List UInt8
 | _,[]=>[]
 | b,e::l=>(bif b then [] else [44,32])++zlh e++zas false l
end
def Sp.text(t:T)(a:Int):List UInt8:=yw (decide (zex t.k<a)) (Sp.bare t)
theorem wd:∀ (l:List T) (a:Int) (i:Nat) (t:T),l[i]?=some t→Sp.at (Sp.texts l a) i=Sp.text t a
 | [],_,_,_,h=>by simp at h
 | u::l,a,0,t,h=>by simp at h; subst h; rfl
 | u::l,a,i+1,t,h=>by rw [Sp.texts]; exact wd l a i t (by simpa using h)
theorem zk5:∀ (l:List T) (a:Int) (i:Nat) (t:T),l[i]?=some t→Sp.at (zb6 l a) i=za5 t a
 | [],_,_,_,h=>by simp at h
 | u::l,a,0,t,h=>by simp at h; subst h; rfl
 | u::l,a,i+1,t,h=>by rw [zb6]; exact zk5 l a i t (by simpa using h)
def zl0:List V→Option (D×Int) | [.ptr 0 0,.d x,.d (.int .i64 a)]=>some (x,a) | _=>none
theorem zf3{a:List V}{x:D}{n:Int}(h:zl0 a=some (x,n)):a=[.ptr 0 0,.d x,.d (.int .i64 n)]:=by
 unfold zl0 at h;split at h
 ·cases h; rfl
 ·cases h
def zrd:List V→Option D | [.ptr 0 0,.d x]=>some x | _=>none
theorem zoa{a:List V}{x:D}(h:zrd a=some x):a=[.ptr 0 0,.d x]:=by
 unfold zrd at h;split at h
 ·cases h; rfl
 ·cases h
def zux:List V→Option (D×List UInt8) | [.ptr 0 0,.d x,.d (.str s)]=>some (x,s) | _=>none
theorem zn9{a:List V}{x:D}{s}(h:zux a=some (x,s)):a=[.ptr 0 0,.d x,.d (.str s)]:=by
 unfold zux at h;split at h
 ·cases h; rfl
 ·cases h
def z1o(m:Nat):D×Int→Option (List UInt8) | (x,a)=>zd (zi m x) λ t=>za (Sp.right t) (some (Sp.text t a))
def ybs(m:Nat):D×Int→Option (List UInt8) | (x,a)=>zd (zi m x) λ t=>za (Sp.form t) (some (za5 t a))
def zrx(u:Bool)(L:List D)(x:D):St:=[(0,.val 1 (.ptr 1 0)),(1,.val 187695107 (.agg [bif u then .ptr 1 0 else .d .nilptr,.sl 6291457 L 2,.d (.bool false)])),(2,.tok L.length),(3,.val 5 (.d x))]
def ze0(u:Bool)(L:List D)(x:D):St:=[(0,.val 5 (.d x)),(1,.val 1 (.ptr 2 0)),(2,.val 187695107 (.agg [bif u then .ptr 2 0 else .d .nilptr,.sl 6291457 L 3,.d (.bool false)])),(3,.tok L.length)]
def psB(u:Bool)(L:List D)(x:D):St:=psS u L++[(2,.val 1 (.ptr 0 0)),(3,.val 5 (.d x))]
def psF(u:Bool)(L:List D)(x:D):St:=psS u L++[(2,.val 5 (.d x)),(3,.val 1 (.ptr 0 0))]
def zlq:St→Option (D×List D×Nat)
 | [(0,.val 1 (.ptr 1 0)),(1,.val 187695107 (.agg [.ptr 1 0,.sl 6291457 L 2,.d (.bool false)])),(2,.tok n),(3,.val 5 (.d x))]=>some (x,L,n)
 | [(0,.val 1 (.ptr 1 0)),(1,.val 187695107 (.agg [.d .nilptr,.sl 6291457 L 2,.d (.bool false)])),(2,.tok n),(3,.val 5 (.d x))]=>some (x,L,n)
 | _=>none
def zm3:St→Option (D×List D×Nat)
 | [(0,.val 5 (.d x)),(1,.val 1 (.ptr 2 0)),(2,.val 187695107 (.agg [.ptr 2 0,.sl 6291457 L 3,.d (.bool false)])),(3,.tok n)]=>some (x,L,n)
 | [(0,.val 5 (.d x)),(1,.val 1 (.ptr 2 0)),(2,.val 187695107 (.agg [.d .nilptr,.sl 6291457 L 3,.d (.bool false)])),(3,.tok n)]=>some (x,L,n)
 | _=>none
def z4i:St→Option (D×List D×Nat)
 | [a,b,(2,.val 1 (.ptr 0 0)),(3,.val 5 (.d x))]=>(match psD [a,b] with | some (L,n)=>some (x,L,n) | none=>none)
 | _=>none
def z6o:St→Option (D×List D×Nat)
 | [a,b,(2,.val 5 (.d x)),(3,.val 1 (.ptr 0 0))]=>(match psD [a,b] with | some (L,n)=>some (x,L,n) | none=>none)
 | _=>none
theorem zm2{σ:St}{x:D}{L:List D}{n:Nat}(h:zlq σ=some (x,L,n))(hn:Sp.fit n L=true):∃ u,σ=zrx u L x:=by
 simp only [Sp.fit,decide_eq_true_eq] at hn;subst hn;unfold zlq at h;split at h
 ·cases h; exact ⟨true,rfl⟩
 ·cases h; exact ⟨false,rfl⟩
 ·cases h
theorem ztq{σ:St}{x:D}{L:List D}{n:Nat}(h:zm3 σ=some (x,L,n))(hn:Sp.fit n L=true):∃ u,σ=ze0 u L x:=by
 simp only [Sp.fit,decide_eq_true_eq] at hn;subst hn;unfold zm3 at h;split at h
 ·cases h; exact ⟨true,rfl⟩
 ·cases h; exact ⟨false,rfl⟩
 ·cases h
theorem zp4{σ:St}{x:D}{L:List D}{n:Nat}(h:z4i σ=some (x,L,n))(hn:Sp.fit n L=true):∃ u,σ=psB u L x:=by
 unfold z4i at h;split at h
 ·split at h
  ·rename_i hp;cases h;obtain ⟨u,hu⟩:=zce hp hn;refine ⟨u,?_⟩;unfold psB;rw [←hu];rfl
  ·cases h
 ·cases h
theorem zy5{σ:St}{x:D}{L:List D}{n:Nat}(h:z6o σ=some (x,L,n))(hn:Sp.fit n L=true):∃ u,σ=psF u L x:=by
 unfold z6o at h;split at h
 ·split at h
  ·rename_i hp;cases h;obtain ⟨u,hu⟩:=zce hp hn;refine ⟨u,?_⟩;unfold psF;rw [←hu];rfl
  ·cases h
 ·cases h
def clK(f:Nat)(dec:List V→Option Bool)(pd:St→Option (D×List D×Nat))(ps:Bool→List D→D→St)(sp:Bool→D→Option (List UInt8))(S:CK R1):CK R1:=
 more f (λ a σ=>match dec a,pd σ with | some b,some p=>some (b,p) | _,_=>none)
  (λ K q=>match q with | (b,x,L,n)=>zd (sp b x) λ s=>za (Sp.fit n L) (za (Sp.room L s) (K (.ret (.tup [])) (ps true (Sp.app L s) x))))
  (λ K q=>by
   obtain ⟨b,x,L,n⟩:=q;simp only;rw [vl];congr 1;funext s;simp only [za,x7];rfl) S
theorem zdi{f:Nat}{dec:List V→Option Bool}{pd:St→Option (D×List D×Nat)}{ps:Bool→List D→D→St}{sp:Bool→D→Option (List UInt8)}{S:CK R1}(hS:knows cx S.S (zh cx))
  (hp:∀ {σ x L n},pd σ=some (x,L,n)→Sp.fit n L=true→∃ u,σ=ps u L x)
  (hf:∀ a b x s u L,dec a=some b→sp b x=some s→Sp.room L s=true→zh cx f a (ps u L x)=some (.ret (.tup []),ps true (Sp.app L s) x)):knows cx (clK f dec pd ps sp S).S (zh cx):=
 wi hS λ a σ q r hd h=>by
  obtain ⟨b,x,L,n⟩:=q;simp only at hd h;split at hd
  ·rename_i b' p hb hpd;cases hd;obtain ⟨s,hs,h⟩:=zb h;obtain ⟨h1,h⟩:=zc h;obtain ⟨h2,h⟩:=zc h;cases h;obtain ⟨u,rfl⟩:=hp hpd h1;exact hf a b x s u L hb hs h2
  ·cases hd
def zl4:List V→Option Bool | [.ptr 0 0,.ptr 3 0]=>some true | _=>none
def zog:List V→Option Bool | [.ptr 0 0,.ptr 1 0]=>some true | _=>none
def zu1(g:Nat):List V→Option Bool | [.ptr 0 0,.d (.bool b),.func f [.ptr 2 0,.ptr 3 0]]=>bif Nat.beq f g then some b else none | _=>none
theorem zoe{a:List V}{b}(h:zl4 a=some b):a=[.ptr 0 0,.ptr 3 0]:=by
 unfold zl4 at h;split at h
 ·rfl
 ·cases h
theorem zu3{a:List V}{b}(h:zog a=some b):a=[.ptr 0 0,.ptr 1 0]:=by
 unfold zog at h;split at h
 ·rfl
 ·cases h
theorem zi1{g:Nat}{a:List V}{b}(h:zu1 g a=some b):a=[.ptr 0 0,.d (.bool b),.func g [.ptr 2 0,.ptr 3 0]]:=by
 unfold zu1 at h;split at h
 ·rename_i b' f;cases hc:Nat.beq f g <;> rw [hc] at h
  ·cases h
  ·obtain rfl:=pg hc;cases h; rfl
 ·cases h
def z3i:List V→Option Int | [.d (.int .i64 a)]=>some a | _=>none
def K91:CK R1:=zx 161 qo Sp.toC (λ t=>mkI (zex t.k)) (zx 217 z3i some (λ k=>mkI (zb5 k)) K90)
end Go.Vai
end
