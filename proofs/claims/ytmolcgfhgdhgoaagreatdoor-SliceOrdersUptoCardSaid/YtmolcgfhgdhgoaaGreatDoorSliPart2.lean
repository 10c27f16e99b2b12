/-
  Lex: the reference: signs. To: Show: the program's looks at trees: elem, right.
-/
import Derived.Test.YtmolcgfhgdhgoaaGreatDoorSliPart1
set_option linter.all false
noncomputable section
namespace Go.Vai
open Go.Proofs
theorem b19(n:Nat)(s:List UInt8)(i:Int) :
    zn cx zo n 201 [.d (.str s),.d (.int .i64 i)] [] =
  bif decide (IntKind.i64.wrap (i+(1:Int))<(↑s.length:Int)) then
    zb
      (decide (0≤IntKind.i64.wrap (i+(2:Int))) &&
        decide (IntKind.i64.wrap (i+(2:Int))≤(↑s.length:Int)))
      (zb (decide (0≤i)&&decide (i≤(↑(IntKind.i64.wrap (i+(2:Int))).toNat:Int)))
        (bif decide (List.drop i.toNat (List.take (IntKind.i64.wrap (i+(2:Int))).toNat s)=[45,62]) then
          some (Out.ret (V.d (D.int .i64 (2:Int))),[])
        else
          bif decide (List.drop i.toNat (List.take (IntKind.i64.wrap (i+(2:Int))).toNat s)=[47,92]) then
            some (Out.ret (V.d (D.int .i64 (2:Int))),[])
          else
            bif decide (List.drop i.toNat (List.take (IntKind.i64.wrap (i+(2:Int))).toNat s)=[92,47]) then
              some (Out.ret (V.d (D.int .i64 (2:Int))),[])
            else
              LP cx zo n 201 0 7 n
                [(0,V.d (D.str s)),(1,V.d (D.int .i64 i)),
                  (6,V.d (D.str [40,41,91,93,44,46,58,59,61,92,60,62,64,126,42,48,49])),
                  (7,V.d (D.int .i64 (0:Int)))]
                [] (AK cx zo n 201 0 7 (EK cx 201 0))))
  else
    LP cx zo n 201 0 7 n
      [(0,V.d (D.str s)),(1,V.d (D.int .i64 i)),
        (6,V.d (D.str [40,41,91,93,44,46,58,59,61,92,60,62,64,126,42,48,49])),
        (7,V.d (D.int .i64 (0:Int)))]
      [] (AK cx zo n 201 0 7 (EK cx 201 0)):=by kernel_rfl
theorem l19(n k:Nat)(s:List UInt8)(i j:Int) :
    LP cx zo n 201 0 7 (k+1) [(0,.d (.str s)),(1,.d (.int .i64 i)),(6,.d (.str [40,41,91,93,44,46,58,59,61,92,60,62,64,126,42,48,49])),(7,.d (.int .i64 j))] [] (AK cx zo n 201 0 7 (EK cx 201 0)) =
  bif decide (j<(17:Int)) then
    zb (decide (0≤i)&&decide (i<(↑s.length:Int)))
      (zc s[i.toNat]? λ b=>
        zb
          (decide (0≤j) &&
            decide (j<(↑([40,41,91,93,44,46,58,59,61,92,60,62,64,126,42,48,49]:List UInt8).length:Int)))
          (zc ([40,41,91,93,44,46,58,59,61,92,60,62,64,126,42,48,49]:List UInt8)[j.toNat]? λ b_1=>
            bif decide ((↑b.toNat:Int)=(↑b_1.toNat:Int)) then
              some (Out.ret (V.d (D.int .i64 (1:Int))),[])
            else
              LP cx zo n 201 0 7 k
                [(0,V.d (D.str s)),(1,V.d (D.int .i64 i)),
                  (6,V.d (D.str [40,41,91,93,44,46,58,59,61,92,60,62,64,126,42,48,49])),
                  (7,V.d (D.int .i64 (IntKind.i64.wrap (j+(1:Int)))))]
                [] (AK cx zo n 201 0 7 (EK cx 201 0))))
  else some (Out.ret (V.d (D.int .i64 (0:Int))),[]):=by kernel_rfl
def zie:List UInt8:=[40,41,91,93,44,46,58,59,61,92,60,62,64,126,42,48,49]
theorem znq(b:UInt8)(r:List UInt8):∀ l:List UInt8,yr (b::r) (l.map λ x=>[x])=bif l.any (λ x=>decide (b=x)) then (2,[b]) else (0,[])
 | []=>rfl
 | x::l=>by
  have ih:=znq b r l;simp only [List.map_cons,yr,List.any_cons];have h:zt (b::r) [x]=decide (b=x):=by simp [zt]
  rw [h,ih];by_cases hx:b=x
  ·subst hx; simp
  ·rw [pb hx]; simp
def yl(s:List UInt8)(i:Int):Int:=((yr (s.drop i.toNat) zel).2.length:Int)
theorem zsw{s:List UInt8}{n i:Nat}{b:UInt8}(hg:s[i]?=some b):∀ (r:List UInt8) (j k:Nat),zie.drop j=r→r.length<k →
  LP cx zo n 201 0 7 k [(0,.d (.str s)),(1,.d (.int .i64 (i:Int))),(6,.d (.str zie)),(7,.d (.int .i64 (j:Int)))] [] (AK cx zo n 201 0 7 (EK cx 201 0))=some (.ret (.d (.int .i64 (bif r.any (λ x=>decide (b=x)) then 1 else 0))),[])
 | _,_,0,_,hk=>by omega
 | [],j,k+1,hr,_=>by
  have h1:=drop_nil hr;have h2:(17:Nat)≤j:=h1;unfold zie;rw [l19,pb (p:=(j:Int)<17) (by omega),px]
  rfl
 | x::r,j,k+1,hr,hk=>by
  obtain ⟨h1,h2,h3⟩:=drop_cons hr;have h1':j<17:=h1;have ih:=zsw (n:=n) hg r (j+1) k h3 (by simpa using hk)
  have hlt:i<s.length:=(pn.1 hg).1;unfold zie at h2 ih ⊢;rw [l19]
  simp only [pa (p:=(j:Int)<17) (by omega),pw,pa (p:=(0:Int)≤(i:Int)) (by omega),pa (p:=(i:Int)<(s.length:Int)) (by omega),Bool.and_self,zb,po,hg,zc,
   pa (p:=(0:Int)≤(j:Int)) (by omega),pa (p:=(j:Int)<((List.length [(40:UInt8),41,91,93,44,46,58,59,61,92,60,62,64,126,42,48,49]:Nat):Int)) (by simp; omega),h2]
  rw [wrapN (by omega) (by omega),show (j:Int)+1=((j+1:Nat):Int) by omega,ih,List.any_cons]
  by_cases hx:b=x
  ·subst hx; simp
  ·rw [pb hx,pb (p:=(b.toNat:Int)=(x.toNat:Int)) (by intro h; exact hx (UInt8.toNat_inj.1 (by omega)))]
   simp
theorem zys:zel=[45,62]::[47,92]::[92,47]::zie.map λ x=>[x]:=rfl
theorem yd0(s:List UInt8)(j:Nat)(hs:s.length≤4611686018427387904)(hj:j<s.length):zj cx 201 [.d (.str s),.d (.int .i64 (j:Int))] []=some (.ret (.d (.int .i64 (yl s (j:Int)))),[]):=by
 refine wy (N:=18) (xr cx) ?_;obtain ⟨b,hg⟩:∃ b,s[j]?=some b:=⟨_,p4 hj⟩;obtain ⟨r,hd⟩:∃ r,s.drop j=b::r:=⟨_,by rw [List.drop_eq_getElem_cons hj]; congr 1; exact Option.some.inj ((p4 hj).symm.trans hg)⟩
 have ho:=zsw (n:=18) hg zie 0 18 rfl (by decide)
 have w1:IntKind.i64.wrap ((j:Int)+1)=((j+1:Nat):Int):=by rw [wrapN (by omega) (by omega)]; omega
 have w2:IntKind.i64.wrap ((j:Int)+2)=((j+2:Nat):Int):=by rw [wrapN (by omega) (by omega)]; omega
 have hlen:(b::r).length=s.length - j:=by rw [←hd]; simp
 rw [b19,w1,w2];unfold yl;simp only [po,hd,zys,yr,znq,List.drop_take,show j+2 - j=2 by omega,zt,py,pz,Nat.zero_add,Nat.reduceAdd]
 generalize zie.any (λ x=>decide (b=x))=A at ho ⊢;by_cases h1:j+1<s.length
 ·simp only [pa (p:=((j+1:Nat):Int)<(s.length:Int)) (by omega),pa (p:=(0:Int)≤((j+2:Nat):Int)) (by omega),pa (p:=((j+2:Nat):Int)≤(s.length:Int)) (by omega),
   pa (p:=(0:Int)≤(j:Int)) (by omega),pa (p:=(j:Int)≤((j+2:Nat):Int)) (by omega),Bool.and_self,zb,pw]
  cases hA:decide (List.take 2 (b::r)=[45,62])
  ·cases hB:decide (List.take 2 (b::r)=[47,92])
   ·cases hC:decide (List.take 2 (b::r)=[92,47])
    ·rw [px,px,px];refine ho.trans ?_;cases A <;> rfl
    ·rfl
   ·rfl
  ·rfl
 ·have hr:r=[]:=by cases r with | nil=>rfl | cons c r=>simp at hlen; omega
  subst hr;rw [pb (p:=((j+1:Nat):Int)<(s.length:Int)) (by omega),px]
  simp only [pb (p:=List.take 2 [b]=[45,62]) (by simp),pb (p:=List.take 2 [b]=[47,92]) (by simp),pb (p:=List.take 2 [b]=[92,47]) (by simp),px]
  refine ho.trans ?_;cases A <;> rfl
def zos(s:List UInt8):Int:=match qb s.length s 0 with | some p=>(p:Int) | none=>-1
def z9c:List V→Option Out | [.d (.str s)]=>some (.ret (.d (.int .i64 (zos s)))) | _=>none
def z9i:List V→Option Out | [.d (.str s),.d (.int .i64 i)]=>some (.ret (.d (.int .i64 (yl s i)))) | _=>none
def S8:xi:=zjj 197 z9c (zjj 198 (zt4 zcg) (zjj 199 (zt4 x9) (zjj 200 (zt4 zcf) (zjj 201 z9i zo))))
theorem z7m:knows cx S8 (zj cx):=by
 refine vd (vd (vd (vd (vd (xr cx) ?_) ?_) ?_) ?_) ?_
 ·intro args o hd h;unfold z9i at h;split at h
  ·cases h;rename_i s a;have hd':(decide (s.length≤big)&&(decide (0≤a)&&decide (a<(s.length:Int))))=true:=hd;simp only [pm,decide_eq_true_eq] at hd';obtain ⟨h1,h2,h3⟩:=hd';have:=yd0 s a.toNat h1 (by omega)
   rw [show ((a.toNat:Nat):Int)=a by omega] at this
   exact this
  ·cases h
 ·intro args o _ h;obtain ⟨c,rfl,rfl⟩:=zh7 h;exact yd1 c
 ·intro args o _ h;obtain ⟨c,rfl,rfl⟩:=zh7 h;exact yd2 c
 ·intro args o _ h;obtain ⟨c,rfl,rfl⟩:=zh7 h;exact yd3 c
 ·intro args o hd h;unfold z9c at h;split at h
  ·cases h; exact yd4 _ (pc hd)
  ·cases h
theorem b8(n:Nat)(s:List UInt8) :
    zn cx S8 n 166 [.d (.str s)] [] =
  bif decide ((65536:Int)<(↑s.length:Int)) then
    some
      (Out.ret (V.tup [V.d (D.sl 3 []),V.d (D.int .i64 (0:Int)),V.d (D.int .i64 (3:Int))]),
        [])
  else
    zb (decide (s.length≤big))
      (bif decide ((0:Int)≤zos s) then
        some
          (Out.ret
              (V.tup [V.d (D.sl 3 []),V.d (D.int .i64 (zos s)),V.d (D.int .i64 (60:Int))]),
            [])
      else
        LP cx S8 n 166 0 8 n [(0,V.d (D.str s)),(6,V.sl 3 [] 6),(7,V.d (D.int .i64 (0:Int)))]
          [(6,Ob.tok 0)] (AK cx S8 n 166 0 8 (EK cx 166 0))):=by kernel_rfl
theorem l8(n k:Nat)(s:List UInt8)(i:Int)(l:List D) :
    LP cx S8 n 166 0 8 (k+1) [(0,.d (.str s)),(6,.sl 3 l 6),(7,.d (.int .i64 i))] [(6,.tok l.length)] (AK cx S8 n 166 0 8 (EK cx 166 0)) =
  bif decide (i<(↑s.length:Int)) then
    zb (decide (0≤i)&&decide (i<(↑s.length:Int)))
      (zc s[i.toNat]? λ b=>
        bif zcg (↑b.toNat:Int) then
          LP cx S8 n 166 0 8 k
            [(0,V.d (D.str s)),(6,V.sl 3 l 6),(7,V.d (D.int .i64 (IntKind.i64.wrap (i+(1:Int)))))]
            [(6,Ob.tok l.length)] (AK cx S8 n 166 0 8 (EK cx 166 0))
        else
          zb (decide (0≤i)&&decide (i<(↑s.length:Int)))
            (zc s[i.toNat]? λ b=>
              bif decide ((↑b.toNat:Int)=(45:Int)) then
                bif decide (IntKind.i64.wrap (i+(1:Int))<(↑s.length:Int)) then
                  zb
                    (decide (0≤IntKind.i64.wrap (i+(1:Int))) &&
                      decide (IntKind.i64.wrap (i+(1:Int))<(↑s.length:Int)))
                    (zc s[(IntKind.i64.wrap (i+(1:Int))).toNat]? λ b=>
                      bif decide ((↑b.toNat:Int)=(45:Int)) then
                        LP cx S8 n 166 0 12 n [(0,V.d (D.str s)),(6,V.sl 3 l 6),(7,V.d (D.int .i64 i))]
                          [(6,Ob.tok l.length)]
                          (AL cx S8 n 166 0 8 12 (inK cx S8 n 166 0 8 k (AK cx S8 n 166 0 8 (EK cx 166 0))))
                      else
                        zb (decide (0≤i)&&decide (i<(↑s.length:Int)))
                          (zc s[i.toNat]? λ b=>
                            bif x9 (↑b.toNat:Int) then
                              LP cx S8 n 166 0 18 n
                                [(0,V.d (D.str s)),(6,V.sl 3 l 6),(7,V.d (D.int .i64 i)),
                                  (8,V.d (D.int .i64 i)),(9,V.d (D.int .i64 (1:Int)))]
                                [(6,Ob.tok l.length)]
                                (AL cx S8 n 166 0 8 18 (inK cx S8 n 166 0 8 k (AK cx S8 n 166 0 8 (EK cx 166 0))))
                            else
                              zb (decide (s.length≤big)&&(decide (0≤i)&&decide (i<(↑s.length:Int))))
                                (bif decide (IntKind.i64.wrap (i+yl s i)=i) then
                                  some
                                    (Out.ret
                                        (V.tup
                                          [V.d (D.sl 3 []),V.d (D.int .i64 i),
                                            V.d (D.int .i64 (61:Int))]),
                                      [])
                                else
                                  zb
                                    (decide (0≤IntKind.i64.wrap (i+yl s i)) &&
                                      decide (IntKind.i64.wrap (i+yl s i)≤(↑s.length:Int)))
                                    (zb
                                      (decide (0≤i) &&
                                        decide (i≤(↑(IntKind.i64.wrap (i+yl s i)).toNat:Int)))
                                      (zb
                                        (decide (l.length=l.length) &&
                                          decide
                                            (l.length +
                                                [D.agg
                                                      [D.int .i64 (2:Int),
                                                        D.str
                                                          (List.drop i.toNat
                                                            (List.take (IntKind.i64.wrap (i+yl s i)).toNat s)),
                                                        D.int .i64 i]].length ≤
                                              4294967296))
                                        (LP cx S8 n 166 0 8 k
                                          [(0,V.d (D.str s)),
                                            (6,
                                              V.sl 3
                                                (l ++
                                                  [D.agg
                                                      [D.int .i64 (2:Int),
                                                        D.str
                                                          (List.drop i.toNat
                                                            (List.take (IntKind.i64.wrap (i+yl s i)).toNat s)),
                                                        D.int .i64 i]])
                                                6),
                                            (7,V.d (D.int .i64 (IntKind.i64.wrap (i+yl s i))))]
                                          [(6,
                                              Ob.tok
                                                (l.length +
                                                  [D.agg
                                                        [D.int .i64 (2:Int),
                                                          D.str
                                                            (List.drop i.toNat
                                                              (List.take (IntKind.i64.wrap (i+yl s i)).toNat
                                                                s)),
                                                          D.int .i64 i]].length))]
                                          (AK cx S8 n 166 0 8 (EK cx 166 0))))))))
                else
                  zb (decide (0≤i)&&decide (i<(↑s.length:Int)))
                    (zc s[i.toNat]? λ b=>
                      bif x9 (↑b.toNat:Int) then
                        LP cx S8 n 166 0 18 n
                          [(0,V.d (D.str s)),(6,V.sl 3 l 6),(7,V.d (D.int .i64 i)),
                            (8,V.d (D.int .i64 i)),(9,V.d (D.int .i64 (1:Int)))]
                          [(6,Ob.tok l.length)]
                          (AL cx S8 n 166 0 8 18 (inK cx S8 n 166 0 8 k (AK cx S8 n 166 0 8 (EK cx 166 0))))
                      else
                        zb (decide (s.length≤big)&&(decide (0≤i)&&decide (i<(↑s.length:Int))))
                          (bif decide (IntKind.i64.wrap (i+yl s i)=i) then
                            some
                              (Out.ret
                                  (V.tup
                                    [V.d (D.sl 3 []),V.d (D.int .i64 i),
                                      V.d (D.int .i64 (61:Int))]),
                                [])
                          else
                            zb
                              (decide (0≤IntKind.i64.wrap (i+yl s i)) &&
                                decide (IntKind.i64.wrap (i+yl s i)≤(↑s.length:Int)))
                              (zb
                                (decide (0≤i)&&decide (i≤(↑(IntKind.i64.wrap (i+yl s i)).toNat:Int)))
                                (zb
                                  (decide (l.length=l.length) &&
                                    decide
                                      (l.length +
                                          [D.agg
                                                [D.int .i64 (2:Int),
                                                  D.str
                                                    (List.drop i.toNat
                                                      (List.take (IntKind.i64.wrap (i+yl s i)).toNat s)),
                                                  D.int .i64 i]].length ≤
                                        4294967296))
                                  (LP cx S8 n 166 0 8 k
                                    [(0,V.d (D.str s)),
                                      (6,
                                        V.sl 3
                                          (l ++
                                            [D.agg
                                                [D.int .i64 (2:Int),
                                                  D.str
                                                    (List.drop i.toNat
                                                      (List.take (IntKind.i64.wrap (i+yl s i)).toNat s)),
                                                  D.int .i64 i]])
                                          6),
                                      (7,V.d (D.int .i64 (IntKind.i64.wrap (i+yl s i))))]
                                    [(6,
                                        Ob.tok
                                          (l.length +
                                            [D.agg
                                                  [D.int .i64 (2:Int),
                                                    D.str
                                                      (List.drop i.toNat
                                                        (List.take (IntKind.i64.wrap (i+yl s i)).toNat s)),
                                                    D.int .i64 i]].length))]
                                    (AK cx S8 n 166 0 8 (EK cx 166 0)))))))
              else
                zb (decide (0≤i)&&decide (i<(↑s.length:Int)))
                  (zc s[i.toNat]? λ b=>
                    bif x9 (↑b.toNat:Int) then
                      LP cx S8 n 166 0 18 n
                        [(0,V.d (D.str s)),(6,V.sl 3 l 6),(7,V.d (D.int .i64 i)),
                          (8,V.d (D.int .i64 i)),(9,V.d (D.int .i64 (1:Int)))]
                        [(6,Ob.tok l.length)]
                        (AL cx S8 n 166 0 8 18 (inK cx S8 n 166 0 8 k (AK cx S8 n 166 0 8 (EK cx 166 0))))
                    else
                      zb (decide (s.length≤big)&&(decide (0≤i)&&decide (i<(↑s.length:Int))))
                        (bif decide (IntKind.i64.wrap (i+yl s i)=i) then
                          some
                            (Out.ret
                                (V.tup
                                  [V.d (D.sl 3 []),V.d (D.int .i64 i),V.d (D.int .i64 (61:Int))]),
                              [])
                        else
                          zb
                            (decide (0≤IntKind.i64.wrap (i+yl s i)) &&
                              decide (IntKind.i64.wrap (i+yl s i)≤(↑s.length:Int)))
                            (zb (decide (0≤i)&&decide (i≤(↑(IntKind.i64.wrap (i+yl s i)).toNat:Int)))
                              (zb
                                (decide (l.length=l.length) &&
                                  decide
                                    (l.length +
                                        [D.agg
                                              [D.int .i64 (2:Int),
                                                D.str
                                                  (List.drop i.toNat
                                                    (List.take (IntKind.i64.wrap (i+yl s i)).toNat s)),
                                                D.int .i64 i]].length ≤
                                      4294967296))
                                (LP cx S8 n 166 0 8 k
                                  [(0,V.d (D.str s)),
                                    (6,
                                      V.sl 3
                                        (l ++
                                          [D.agg
                                              [D.int .i64 (2:Int),
                                                D.str
                                                  (List.drop i.toNat
                                                    (List.take (IntKind.i64.wrap (i+yl s i)).toNat s)),
                                                D.int .i64 i]])
                                        6),
                                    (7,V.d (D.int .i64 (IntKind.i64.wrap (i+yl s i))))]
                                  [(6,
                                      Ob.tok
                                        (l.length +
                                          [D.agg
                                                [D.int .i64 (2:Int),
                                                  D.str
                                                    (List.drop i.toNat
                                                      (List.take (IntKind.i64.wrap (i+yl s i)).toNat s)),
                                                  D.int .i64 i]].length))]
                                  (AK cx S8 n 166 0 8 (EK cx 166 0)))))))))
  else
    zb
      (decide (l.length=l.length) &&
        decide
          (l.length+[D.agg [D.int .i64 (0:Int),D.str [],D.int .i64 (↑s.length:Int)]].length ≤
            4294967296))
      (some
        (Out.ret
            (V.tup
              [V.d
                  (D.sl 3
                    (l++[D.agg [D.int .i64 (0:Int),D.str [],D.int .i64 (↑s.length:Int)]])),
                V.d (D.int .i64 (0:Int)),V.d (D.int .i64 (0:Int))]),
          [])):=by kernel_rfl
theorem l8c(n k k':Nat)(s:List UInt8)(i:Int)(l:List D) :
    LP cx S8 n 166 0 12 (k+1) [(0,.d (.str s)),(6,.sl 3 l 6),(7,.d (.int .i64 i))] [(6,.tok l.length)] (AL cx S8 n 166 0 8 12 (inK cx S8 n 166 0 8 k' (AK cx S8 n 166 0 8 (EK cx 166 0)))) =
  bif decide (i<(↑s.length:Int)) then
    zb (decide (0≤i)&&decide (i<(↑s.length:Int)))
      (zc s[i.toNat]? λ b=>
        bif !decide ((↑b.toNat:Int)=(10:Int)) then
          LP cx S8 n 166 0 12 k
            [(0,V.d (D.str s)),(6,V.sl 3 l 6),(7,V.d (D.int .i64 (IntKind.i64.wrap (i+(1:Int)))))]
            [(6,Ob.tok l.length)] (AL cx S8 n 166 0 8 12 (inK cx S8 n 166 0 8 k' (AK cx S8 n 166 0 8 (EK cx 166 0))))
        else
          LP cx S8 n 166 0 8 k' [(0,V.d (D.str s)),(6,V.sl 3 l 6),(7,V.d (D.int .i64 i))]
            [(6,Ob.tok l.length)] (AK cx S8 n 166 0 8 (EK cx 166 0)))
  else
    LP cx S8 n 166 0 8 k' [(0,V.d (D.str s)),(6,V.sl 3 l 6),(7,V.d (D.int .i64 i))] [(6,Ob.tok l.length)]
      (AK cx S8 n 166 0 8 (EK cx 166 0)):=by kernel_rfl
theorem l8n(n k k':Nat)(s:List UInt8)(i e:Int)(l:List D) :
    LP cx S8 n 166 0 18 (k+1) [(0,.d (.str s)),(6,.sl 3 l 6),(7,.d (.int .i64 i)),(8,.d (.int .i64 e)),(9,.d (.int .i64 1))] [(6,.tok l.length)] (AL cx S8 n 166 0 8 18 (inK cx S8 n 166 0 8 k' (AK cx S8 n 166 0 8 (EK cx 166 0)))) =
  bif decide (e<(↑s.length:Int)) then
    zb (decide (0≤e)&&decide (e<(↑s.length:Int)))
      (zc s[e.toNat]? λ b=>
        bif x9 (↑b.toNat:Int) then
          LP cx S8 n 166 0 18 k
            [(0,V.d (D.str s)),(6,V.sl 3 l 6),(7,V.d (D.int .i64 i)),
              (8,V.d (D.int .i64 (IntKind.i64.wrap (e+(1:Int))))),
              (9,V.d (D.int .i64 (1:Int)))]
            [(6,Ob.tok l.length)] (AL cx S8 n 166 0 8 18 (inK cx S8 n 166 0 8 k' (AK cx S8 n 166 0 8 (EK cx 166 0))))
        else
          zb (decide (0≤e)&&decide (e<(↑s.length:Int)))
            (zc s[e.toNat]? λ b=>
              bif zcf (↑b.toNat:Int) then
                LP cx S8 n 166 0 18 k
                  [(0,V.d (D.str s)),(6,V.sl 3 l 6),(7,V.d (D.int .i64 i)),
                    (8,V.d (D.int .i64 (IntKind.i64.wrap (e+(1:Int))))),
                    (9,V.d (D.int .i64 (1:Int)))]
                  [(6,Ob.tok l.length)] (AL cx S8 n 166 0 8 18 (inK cx S8 n 166 0 8 k' (AK cx S8 n 166 0 8 (EK cx 166 0))))
              else
                bif decide (e=i) then
                  some
                    (Out.ret
                        (V.tup [V.d (D.sl 3 []),V.d (D.int .i64 i),V.d (D.int .i64 (61:Int))]),
                      [])
                else
                  zb (decide (0≤e)&&decide (e≤(↑s.length:Int)))
                    (zb (decide (0≤i)&&decide (i≤(↑e.toNat:Int)))
                      (zb
                        (decide (l.length=l.length) &&
                          decide
                            (l.length +
                                [D.agg
                                      [D.int .i64 (1:Int),D.str (List.drop i.toNat (List.take e.toNat s)),
                                        D.int .i64 i]].length ≤
                              4294967296))
                        (LP cx S8 n 166 0 8 k'
                          [(0,V.d (D.str s)),
                            (6,
                              V.sl 3
                                (l ++
                                  [D.agg
                                      [D.int .i64 (1:Int),D.str (List.drop i.toNat (List.take e.toNat s)),
                                        D.int .i64 i]])
                                6),
                            (7,V.d (D.int .i64 e))]
                          [(6,
                              Ob.tok
                                (l.length +
                                  [D.agg
                                        [D.int .i64 (1:Int),
                                          D.str (List.drop i.toNat (List.take e.toNat s)),
                                          D.int .i64 i]].length))]
                          (AK cx S8 n 166 0 8 (EK cx 166 0)))))))
  else
    bif decide (e=i) then
      some (Out.ret (V.tup [V.d (D.sl 3 []),V.d (D.int .i64 i),V.d (D.int .i64 (61:Int))]),[])
    else
      zb (decide (0≤e)&&decide (e≤(↑s.length:Int)))
        (zb (decide (0≤i)&&decide (i≤(↑e.toNat:Int)))
          (zb
            (decide (l.length=l.length) &&
              decide
                (l.length +
                    [D.agg
                          [D.int .i64 (1:Int),D.str (List.drop i.toNat (List.take e.toNat s)),
                            D.int .i64 i]].length ≤
                  4294967296))
            (LP cx S8 n 166 0 8 k'
              [(0,V.d (D.str s)),
                (6,
                  V.sl 3
                    (l ++
                      [D.agg
                          [D.int .i64 (1:Int),D.str (List.drop i.toNat (List.take e.toNat s)),
                            D.int .i64 i]])
                    6),
                (7,V.d (D.int .i64 e))]
              [(6,
                  Ob.tok
                    (l.length +
                      [D.agg
                            [D.int .i64 (1:Int),D.str (List.drop i.toNat (List.take e.toNat s)),
                              D.int .i64 i]].length))]
              (AK cx S8 n 166 0 8 (EK cx 166 0))))):=by kernel_rfl
abbrev fr8(s:List UInt8)(j:Nat)(l:List D):Fr:=[(0,.d (.str s)),(6,.sl 3 l 6),(7,.d (.int .i64 (j:Int)))]
abbrev L8 (n k:Nat) (s:List UInt8) (j:Nat) (l:List D):Option (Out×St):=LP cx S8 n 166 0 8 k (fr8 s j l) [(6,.tok l.length)] (AK cx S8 n 166 0 8 (EK cx 166 0))
theorem z08{s:List UInt8}(hs:s.length≤65536)(n k':Nat)(l:List D):∀ (r:List UInt8) (j k:Nat),s.drop j=r→j≤s.length→r.length<k →
  ∃ j',LP cx S8 n 166 0 12 k (fr8 s j l) [(6,.tok l.length)] (AL cx S8 n 166 0 8 12 (inK cx S8 n 166 0 8 k' (AK cx S8 n 166 0 8 (EK cx 166 0))))=L8 n k' s j' l∧j≤j'∧j'≤s.length∧xn true r j=y7 s j'∧(∀ b r',r=b::r'→¬ (b.toNat:Int)=10→j<j')
 | _,_,0,_,_,hk=>by omega
 | [],j,k+1,hr,hj,_=>by
  have h1:=drop_nil hr;refine ⟨j,?_,Nat.le_refl _,hj,?_,λ b r' h=>by cases h⟩
  ·rw [l8c,pb (p:=(j:Int)<(s.length:Int)) (by omega)]; rfl
  ·unfold y7; rw [hr]; rfl
 | b::r,j,k+1,hr,hj,hk=>by
  obtain ⟨h1,h2,h3⟩:=drop_cons hr;by_cases hb:(b.toNat:Int)=10
  ·refine ⟨j,?_,Nat.le_refl _,hj,?_,λ b' r' h hn=>by cases h; exact absurd hb hn⟩
   ·rw [l8c];simp only [pa (p:=(j:Int)<(s.length:Int)) (by omega),pa (p:=(0:Int)≤(j:Int)) (by omega),pw,Bool.and_self,zb,po,h2,zc,pa hb,Bool.not_true,px]
   ·unfold y7;rw [hr,xn,xn,pa hb,hb]; rfl
  ·obtain ⟨j',e1,e2,e3,e4,_⟩:=z08 hs n k' l r (j+1) k h3 h1 (by simpa using hk)
   refine ⟨j',?_,by omega,e3,?_,λ _ _ _ _=>by omega⟩
   ·rw [l8c];simp only [pa (p:=(j:Int)<(s.length:Int)) (by omega),pa (p:=(0:Int)≤(j:Int)) (by omega),pw,Bool.and_self,zb,po,h2,zc,pb hb,Bool.not_false]
    rw [zr9 (by omega)]
    exact e1
   ·rw [xn,pb hb]; exact e4
theorem z07{s : List UInt8}{n k' j e : Nat}{l : List D}(hje : j < e)(he : e ≤ s.length)(hl : l.length ≤ 65536) :
    (bif decide ((e : Int) = (j : Int)) then
                  some
                    (Out.ret
                        (V.tup [V.d (D.sl 3 []), V.d (D.int .i64 (j : Int)), V.d (D.int .i64 (61 : Int))]),
                      [])
                else
                  zb (decide (0 ≤ (e : Int)) && decide ((e : Int) ≤ (↑s.length : Int)))
                    (zb (decide (0 ≤ (j : Int)) && decide ((j : Int) ≤ (e : Int)))
                      (zb
                        (decide (l.length = l.length) &&
                          decide
                            (l.length +
                                [D.agg
                                      [D.int .i64 (1 : Int), D.str (List.drop j (List.take e s)),
                                        D.int .i64 (j : Int)]].length ≤
                              4294967296))
                        (LP cx S8 n 166 0 8 k'
                          [(0, V.d (D.str s)),
                            (6,
                              V.sl 3
                                (l ++
                                  [D.agg
                                      [D.int .i64 (1 : Int), D.str (List.drop j (List.take e s)),
                                        D.int .i64 (j : Int)]])
                                6),
                            (7, V.d (D.int .i64 (e : Int)))]
                          [(6,
                              Ob.tok
                                (l.length +
                                  [D.agg
                                        [D.int .i64 (1 : Int),
                                          D.str (List.drop j (List.take e s)),
                                          D.int .i64 (j : Int)]].length))]
                          (AK cx S8 n 166 0 8 (EK cx 166 0)))))) = L8 n k' s e (l ++ [zj8 1 ((s.drop j).take (e - j)) (j : Int)]) := by
  rw [List.drop_take]
  simp only [pb (p := (e : Int) = (j : Int)) (by omega), px, zb, pa (p := (0 : Int) ≤ (e : Int)) (by omega), pa (p := (e : Int) ≤ (s.length : Int)) (by omega),
    pa (p := (0 : Int) ≤ (j : Int)) (by omega), pa (p := (j : Int) ≤ (e : Int)) (by omega), Bool.and_self, pw, decide_true, List.length_singleton, pa (p := l.length + 1 ≤ 4294967296) (by omega)]
  unfold L8;rw [pe];rfl
theorem z09{s:List UInt8}(hs:s.length≤65536)(n k' j:Nat){l:List D}(hl:l.length≤65536):∀ (r:List UInt8) (e k:Nat),s.drop e=r→j<e→e≤s.length→r.length<k →
  LP cx S8 n 166 0 18 k [(0,.d (.str s)),(6,.sl 3 l 6),(7,.d (.int .i64 (j:Int))),(8,.d (.int .i64 (e:Int))),(9,.d (.int .i64 1))] [(6,.tok l.length)] (AL cx S8 n 166 0 8 18 (inK cx S8 n 166 0 8 k' (AK cx S8 n 166 0 8 (EK cx 166 0)))) =
   L8 n k' s (j+vf r (e - j)) (l++[zj8 1 ((s.drop j).take (vf r (e - j))) (j:Int)])
 | _,_,0,_,_,_,hk=>by omega
 | [],e,k+1,hr,hje,he,_=>by
  have h1:=drop_nil hr;rw [l8n,pb (p:=(e:Int)<(s.length:Int)) (by omega),px]
  refine (z07 (n:=n) (k':=k') hje he hl).trans ?_;rw [vf,show j+(e - j)=e by omega]
 | b::r,e,k+1,hr,hje,he,hk=>by
  obtain ⟨h1,h2,h3⟩:=drop_cons hr;have ih:=z09 hs n k' j hl r (e+1) k h3 (by omega) h1 (by simpa using hk)
  have hle:=zm1 (b::r) (e - j);rw [l8n];simp only [pa (p:=(e:Int)<(s.length:Int)) (by omega),pa (p:=(0:Int)≤(e:Int)) (by omega),pw,Bool.and_self,zb,po,h2,zc,vf,pa (p:=0<e - j) (by omega),Bool.true_and]
  rw [zr9 (by omega)]
  cases x9 (b.toNat:Int)
  ·cases zcf (b.toNat:Int)
   ·have st:=z07 (n:=n) (k':=k') hje he hl;simp only [pa (p:=(0:Int)≤(e:Int)) (by omega),pa (p:=(e:Int)≤(s.length:Int)) (by omega),zb,pw,Bool.and_self] at st
    simp only [px,Bool.or_self,pa (p:=(e:Int)≤(s.length:Int)) (by omega),pw]
    rw [show j+(e - j)=e by omega]
    exact st
   ·simp only [px,pw,Bool.or_true];rw [show e - j+1=e+1 - j by omega]; exact ih
  ·simp only [pw,Bool.true_or];rw [show e - j+1=e+1 - j by omega]; exact ih
def zlj(r:List D×Int×Int):Option (Out×St):=some (.ret (.tup [.d (.sl 3 r.1),.d (.int .i64 r.2.1),.d (.int .i64 r.2.2)]),[])
def R8(n k : Nat)(s : List UInt8)(i : Int)(l : List D) : Option (Out × St) :=
                zb (decide (0 ≤ i) && decide (i < (↑s.length : Int)))
                  (zc s[i.toNat]? λ b =>
                    bif x9 (↑b.toNat : Int) then
                      LP cx S8 n 166 0 18 n
                        [(0, V.d (D.str s)), (6, V.sl 3 l 6), (7, V.d (D.int .i64 i)),
                          (8, V.d (D.int .i64 i)), (9, V.d (D.int .i64 (1 : Int)))]
                        [(6, Ob.tok l.length)]
                        (AL cx S8 n 166 0 8 18 (inK cx S8 n 166 0 8 k (AK cx S8 n 166 0 8 (EK cx 166 0))))
                    else
                      zb (decide (s.length ≤ big) && (decide (0 ≤ i) && decide (i < (↑s.length : Int))))
                        (bif decide (IntKind.i64.wrap (i + yl s i) = i) then
                          some
                            (Out.ret
                                (V.tup
                                  [V.d (D.sl 3 []), V.d (D.int .i64 i), V.d (D.int .i64 (61 : Int))]),
                              [])
                        else
                          zb
                            (decide (0 ≤ IntKind.i64.wrap (i + yl s i)) &&
                              decide (IntKind.i64.wrap (i + yl s i) ≤ (↑s.length : Int)))
                            (zb (decide (0 ≤ i) && decide (i ≤ (↑(IntKind.i64.wrap (i + yl s i)).toNat : Int)))
                              (zb
                                (decide (l.length = l.length) &&
                                  decide
                                    (l.length +
                                        [D.agg
                                              [D.int .i64 (2 : Int),
                                                D.str
                                                  (List.drop i.toNat
                                                    (List.take (IntKind.i64.wrap (i + yl s i)).toNat s)),
                                                D.int .i64 i]].length ≤
                                      4294967296))
                                (LP cx S8 n 166 0 8 k
                                  [(0, V.d (D.str s)),
                                    (6,
                                      V.sl 3
                                        (l ++
                                          [D.agg
                                              [D.int .i64 (2 : Int),
                                                D.str
                                                  (List.drop i.toNat
                                                    (List.take (IntKind.i64.wrap (i + yl s i)).toNat s)),
                                                D.int .i64 i]])
                                        6),
                                    (7, V.d (D.int .i64 (IntKind.i64.wrap (i + yl s i))))]
                                  [(6,
                                      Ob.tok
                                        (l.length +
                                          [D.agg
                                                [D.int .i64 (2 : Int),
                                                  D.str
                                                    (List.drop i.toNat
                                                      (List.take (IntKind.i64.wrap (i + yl s i)).toNat s)),
                                                  D.int .i64 i]].length))]
                                  (AK cx S8 n 166 0 8 (EK cx 166 0)))))))
theorem l8r(n k:Nat)(s:List UInt8)(i:Int)(l:List D) :
  LP cx S8 n 166 0 8 (k+1) [(0,.d (.str s)),(6,.sl 3 l 6),(7,.d (.int .i64 i))] [(6,.tok l.length)] (AK cx S8 n 166 0 8 (EK cx 166 0)) =
 bif decide (i<(↑s.length:Int)) then
  zb (decide (0≤i)&&decide (i<(↑s.length:Int)))
   (zc s[i.toNat]? λ b=>
    bif zcg (↑b.toNat:Int) then
     LP cx S8 n 166 0 8 k
      [(0,V.d (D.str s)),(6,V.sl 3 l 6),(7,V.d (D.int .i64 (IntKind.i64.wrap (i+(1:Int)))))]
      [(6,Ob.tok l.length)] (AK cx S8 n 166 0 8 (EK cx 166 0))
    else
     zb (decide (0≤i)&&decide (i<(↑s.length:Int)))
      (zc s[i.toNat]? λ b=>
       bif decide ((↑b.toNat:Int)=(45:Int)) then
        bif decide (IntKind.i64.wrap (i+(1:Int))<(↑s.length:Int)) then
         zb
          (decide (0≤IntKind.i64.wrap (i+(1:Int))) &&
           decide (IntKind.i64.wrap (i+(1:Int))<(↑s.length:Int)))
          (zc s[(IntKind.i64.wrap (i+(1:Int))).toNat]? λ b=>
           bif decide ((↑b.toNat:Int)=(45:Int)) then
            LP cx S8 n 166 0 12 n [(0,V.d (D.str s)),(6,V.sl 3 l 6),(7,V.d (D.int .i64 i))]
             [(6,Ob.tok l.length)]
             (AL cx S8 n 166 0 8 12 (inK cx S8 n 166 0 8 k (AK cx S8 n 166 0 8 (EK cx 166 0))))
           else R8 n k s i l)
        else R8 n k s i l
       else R8 n k s i l))
 else
  zb
   (decide (l.length=l.length) &&
    decide
     (l.length+[D.agg [D.int .i64 (0:Int),D.str [],D.int .i64 (↑s.length:Int)]].length ≤
      4294967296))
   (some
    (Out.ret
      (V.tup
       [V.d
         (D.sl 3
          (l++[D.agg [D.int .i64 (0:Int),D.str [],D.int .i64 (↑s.length:Int)]])),
        V.d (D.int .i64 (0:Int)),V.d (D.int .i64 (0:Int))]),
     [])):=l8 n k s i l
theorem r8{s:List UInt8}(hs:s.length≤65536){n k j:Nat}(hn:s.length<n){l:List D}(hl:l.length≤65536){b:UInt8}{r:List UInt8}(hd:s.drop j=b::r) :
  R8 n k s (j:Int) l=bif decide ((yy (s.drop j)).2=[]) then zlj ([],j,61) else L8 n k s (j+(yy (s.drop j)).2.length) (l++[zj8 (yy (s.drop j)).1 (yy (s.drop j)).2 (j:Int)]):=by
 obtain ⟨h1,h2,h3⟩:=drop_cons hd;have hlen:(b::r).length=s.length - j:=by rw [←hd]; simp
 unfold R8;simp only [pa (p:=(j:Int)<(s.length:Int)) (by omega),pa (p:=(0:Int)≤(j:Int)) (by omega),pw,Bool.and_self,zb,po,h2,zc]
 rw [hd];cases hb:x9 (b.toNat:Int)
 ·have hnl:y9 (b::r)=0:=by simp only [y9,vf,hb]; rfl
  have hone:yy (b::r)=yr (b::r) zel:=by unfold yy; rw [hnl]; rfl
  have hpre:=z00 (b::r);have hle:=zun (b::r);have hk:=znr (b::r) zel;have hsg:yl s (j:Int)=((yy (b::r)).2.length:Int):=by unfold yl; rw [po,hd,hone]
  rw [←hone] at hk;generalize yy (b::r)=o at hpre hle hk hsg hone ⊢;simp only [px,hsg,pa (p:=s.length≤big) (by simp [big]; omega),pa (p:=(j:Int)≤(s.length:Int)) (by omega),pw,Bool.and_self]
  rw [wrapN (x:=(j:Int)+(o.2.length:Int)) (by omega) (by omega),show (j:Int)+(o.2.length:Int)=((j+o.2.length:Nat):Int) by omega]
  simp only [po];by_cases ho:o.2=[]
  ·rw [pa ho,pa (p:=((j+o.2.length:Nat):Int)=(j:Int)) (by rw [ho]; rfl)]; rfl
  ·have hpos:0<o.2.length:=List.length_pos_iff.2 ho;have hk2:o.1=2:=hk.resolve_left ho;rw [pb ho,pb (p:=((j+o.2.length:Nat):Int)=(j:Int)) (by omega),List.drop_take,show j+o.2.length - j=o.2.length by omega,hd,←hpre,hk2]
   simp only [pa (p:=(0:Int)≤((j+o.2.length:Nat):Int)) (by omega),pa (p:=((j+o.2.length:Nat):Int)≤(s.length:Int)) (by omega),pa (p:=(j:Int)≤((j+o.2.length:Nat):Int)) (by omega),
    pw,px,Bool.and_self,List.length_singleton,pa (p:=l.length+1≤4294967296) (by omega)]
   unfold L8;rw [pe];rfl
 ·have hnl:y9 (b::r)=vf r 1:=by simp only [y9,vf,hb,Bool.true_or,pw,Nat.zero_add]
  have hge:=zs1 r 1;have hle:=zkr (b::r);have hone:yy (b::r)=(1,(b::r).take (y9 (b::r))):=by unfold yy; rw [pa (by omega)]; rfl
  have hl1:((b::r).take (y9 (b::r))).length=y9 (b::r):=by rw [List.length_take]; omega
  obtain ⟨n',hn'⟩:∃ i,n=i+1:=⟨n - 1,by omega⟩
  have st:=z09 hs n k j hl r (j+1) n' h3 (by omega) h1 (by simp at hlen; omega)
  rw [show j+1 - j=1 by omega,hd,←hnl] at st
  rw [pw,hone];simp only [];rw [hl1,pb (p:=(b::r).take (y9 (b::r))=[]) (by intro h; rw [h] at hl1; simp at hl1; omega),px,←st]
  conv=>lhs; arg 7; rw [hn']
  rw [l8n];simp only [pa (p:=(j:Int)<(s.length:Int)) (by omega),pa (p:=(0:Int)≤(j:Int)) (by omega),pw,Bool.and_self,zb,po,h2,zc,hb]
  rw [zr9 (by omega)]
theorem z47{s:List UInt8}(hs:s.length≤65536){n:Nat}(hn:s.length<n):∀ (N j k f:Nat) (l:List D),s.length - j≤N→s.length - j<f→s.length - j<k→j≤s.length→l.length+(s.length - j)≤65536 →
  L8 n k s j l=zlj (zb5 f s (y7 s j) l):=by
 intro N
 induction N with
 | zero=>
  intro j k f l hN hf hk hj hl;obtain ⟨k,rfl⟩:∃ i,k=i+1:=⟨k - 1,by omega⟩
  obtain ⟨f,rfl⟩:∃ i,f=i+1:=⟨f - 1,by omega⟩
  have hb:=zbq (s:=s) hj;have hll:decide (l.length=l.length)=true:=pa rfl;unfold L8;rw [l8r];simp only [pb (p:=(j:Int)<(s.length:Int)) (by omega),px,zb5,pb (p:=y7 s j<s.length) (by omega),hll,Bool.true_and,zb,List.length_singleton,pa (p:=l.length+1≤4294967296) (by omega),pw]
  rfl
 | succ N ih=>
  intro j k f l hN hf hk hj hl;by_cases hlt:s.length - j≤N
  ·exact ih j k f l hlt hf hk hj hl
  obtain ⟨k,rfl⟩:∃ i,k=i+1:=⟨k - 1,by omega⟩
  cases hd:s.drop j with
  | nil=>have:=drop_nil hd; omega
  | cons b r=>
   obtain ⟨h1,h2,h3⟩:=drop_cons hd;have hlen:(b::r).length=s.length - j:=by rw [←hd]; simp
   unfold L8;rw [l8r];simp only [pa (p:=(j:Int)<(s.length:Int)) (by omega),pa (p:=(0:Int)≤(j:Int)) (by omega),pw,Bool.and_self,zb,po,h2,zc]
   rw [zr9 (by omega)]
   cases hb:zcg (b.toNat:Int)
   ·-- a token,or a comment
    have tok:∀ (hp:y7 s j=j),R8 n k s (j:Int) l=zlj (zb5 f s (y7 s j) l):=by
     intro hp;obtain ⟨f,rfl⟩:∃ i,f=i+1:=⟨f - 1,by omega⟩
     rw [r8 hs hn (by omega) hd,hp,zb5,pa h1,pw]
     have hle:=zun (s.drop j);rw [List.length_drop] at hle;by_cases ho:(yy (s.drop j)).2=[]
     ·rw [pa ho]; rfl
     ·have hpos:0<(yy (s.drop j)).2.length:=List.length_pos_iff.2 ho;rw [pb ho,px,px];exact ih _ k f _ (by omega) (by omega) (by omega) (by omega) (by simp; omega)
    have hpast:y7 s j=bif decide ((b.toNat:Int)=45)&&zt (b::r) [45,45] then xn true r (j+1) else j:=by
     unfold y7; rw [hd,xn,hb]; rfl
    simp only [px];by_cases h45:(b.toNat:Int)=45
    ·rw [pa h45,Bool.true_and] at hpast;have hb45:b=45:=UInt8.toNat_inj.1 (by simp; omega)
     rw [pa h45,pw];cases r with
     | nil=>
      rw [pb (p:=((j+1:Nat):Int)<(s.length:Int)) (by simp at hlen; omega),px]
      refine tok (hpast.trans ?_);rw [show zt [b] [45,45]=false by simp [zt]]; rfl
     | cons c r=>
      obtain ⟨h4,h5,h6⟩:=drop_cons h3;simp only [pa (p:=((j+1:Nat):Int)<(s.length:Int)) (by omega),pa (p:=(0:Int)≤((j+1:Nat):Int)) (by omega),pw,Bool.and_self,po,h5]
      by_cases hc:(c.toNat:Int)=45
      ·have hc45:c=45:=UInt8.toNat_inj.1 (by simp; omega)
       rw [show zt (b::c::r) [45,45]=true by simp [zt,hb45,hc45],pw] at hpast
       rw [pa hc,pw];obtain ⟨j',e1,e2,e3,e4,e5⟩:=z08 hs n k l (b::c::r) j n hd hj (by omega)
       rw [xn,pb (by omega)] at e4
       have hjj:=e5 b (c::r) rfl (by omega)
       refine e1.trans ?_;rw [hpast];refine (ih j' k f l (by omega) (by omega) (by omega) e3 (by omega)).trans ?_
       rw [←e4]; rfl
      ·rw [pb hc,px];refine tok (hpast.trans ?_);rw [show zt (b::c::r) [45,45]=false by
        simp only [zt,py,pz,List.take]; exact pb λ h=>by simp at h; exact hc (by rw [h.2]; rfl)]
       rfl
    ·rw [pb h45,Bool.false_and] at hpast;rw [pb h45,px];exact tok hpast
   ·have hpast:y7 s j=y7 s (j+1):=by
     unfold y7; rw [hd,xn,hb,h3]; rfl
    rw [pw,hpast];exact ih (j+1) k f l (by omega) (by omega) (by omega) h1 (by omega)
theorem yhb(s:List UInt8)(hb:s.length≤big):zj cx 166 [.d (.str s)] []=zlj (zai s):=by
 unfold zai;refine wy (N:=s.length+1) z7m ?_;rw [b8];by_cases h:65536<s.length
 ·rw [pa h,pw,pa (p:=(65536:Int)<(s.length:Int)) (by omega)]
  rfl
 ·rw [pb h,px,pb (p:=(65536:Int)<(s.length:Int)) (by omega),pa hb]
  simp only [px,zb,pw];unfold zos;cases qb s.length s 0 with
  | none=>
   have hr:=z47 (s:=s) (by omega) (n:=s.length+1) (by omega) s.length 0 (s.length+1) (s.length+1) [] (by omega) (by omega) (by omega) (by omega) (by simp; omega)
   simp only [pb (p:=(0:Int)≤-1) (by omega),px]
   exact hr
  | some p=>
   simp only [pa (p:=(0:Int)≤(p:Int)) (by omega)]
   rw [pw]
inductive T where
 | mk (k:Int) (nm:List UInt8) (kids:List T) (nms:List (List UInt8)) (pl:Int)
def T.k:T→Int | .mk k _ _ _ _=>k
def T.nm:T→List UInt8 | .mk _ n _ _ _=>n
def T.kids:T→List T | .mk _ _ l _ _=>l
def T.nms:T→List (List UInt8) | .mk _ _ _ l _=>l
def T.pl:T→Int | .mk _ _ _ _ a=>a
instance:Inhabited T:=⟨.mk 0 [] [] [] 0⟩
mutual
def T.d:T→D
 | .mk k nm kids nms pl=>.agg [.int .i64 k,.str nm,.sl 5 (T.ds kids),.sl 1 (nms.map .str),.int .i64 pl]
def T.ds:List T→List D
 | []=>[]
 | t::l=>t.d::T.ds l
end
mutual
def T.depth:T→Nat | .mk _ _ kids _ _=>T.depths kids+1
def T.depths:List T→Nat | []=>0 | t::l=>max t.depth (T.depths l)
end
theorem zk0(l:List T):T.ds l=l.map T.d:=by
 induction l with
 | nil=>rfl
 | cons t l ih=>simp only [T.ds,ih,List.map_cons]
theorem zu(l:List T):(T.ds l).length=l.length:=by rw [zk0,ph]
theorem zgy{t:T}:∀ {l:List T},t∈l→t.depth≤T.depths l
 | u::l,h=>by
  simp only [T.depths];cases h with
  | head=>omega
  | tail _ h=>have:=zgy h; omega
def strs:List D→Option (List (List UInt8))
 | []=>some []
 | .str s::r=>(match strs r with | some l=>some (s::l) | none=>none)
 | _::_=>none
theorem zv4(l:List (List UInt8)):strs (l.map .str)=some l:=by
 induction l with
 | nil=>rfl
 | cons s l ih=>simp only [List.map_cons,strs,ih]
theorem zjr:∀ {l:List D} {m},strs l=some m→l=m.map .str
 | [],m,h=>by cases h; rfl
 | x::r,m,h=>by
  unfold strs at h;split at h
  ·rename_i he; cases he
  ·rename_i s q he;cases he;split at h
   ·rename_i l hl; cases h; rw [zjr hl]; rfl
   ·cases h
  ·cases h
def yn{α:Type}(l:List α):Bool:=decide (l.length<4294967296)
def toL(f:D→Option T):List D→Option (List T)
 | []=>some []
 | x::r=>(match f x,toL f r with | some t,some l=>some (t::l) | _,_=>none)
def zi:Nat→D→Option T
 | 0,_=>none
 | n+1,.agg [.int .i64 k,.str nm,.sl 5 l,.sl 1 ns,.int .i64 pl]=>
  bif yn nm&&yn l&&yn ns then (match toL (zi n) l,strs ns with | some kids,some nms=>bif nms.all yn then some (.mk k nm kids nms pl) else none | _,_=>none) else none
 | _,_=>none
theorem zv1{f:D→Option T}:∀ {l:List D} {m},toL f l=some m→l.length=m.length∧∀ (i:Nat) x t,l[i]?=some x→m[i]?=some t→f x=some t
 | [],m,h=>by cases h; exact ⟨rfl,λ i x t h=>by simp at h⟩
 | x::r,m,h=>by
  unfold toL at h;split at h
  ·rename_i t l ht hl;cases h;obtain ⟨h1,h2⟩:=zv1 hl;refine ⟨by simp [h1],λ i y u hy hu=>?_⟩
   cases i with
   | zero=>simp at hy hu; subst hy; subst hu; exact ht
   | succ i=>exact h2 i y u (by simpa using hy) (by simpa using hu)
  ·cases h
mutual
def T.ok:T→Bool
 | .mk _ nm kids nms _=>yn nm&&yn kids&&yn nms&&nms.all yn&&T.oks kids
def T.oks:List T→Bool
 | []=>true
 | t::l=>t.ok&&T.oks l
end
theorem wx{t:T}:∀ {l:List T},T.oks l=true→t∈l→t.ok=true
 | u::l,h,hm=>by
  simp only [T.oks,pm] at h;cases hm with
  | head=>exact h.1
  | tail _ hm=>exact wx h.2 hm
theorem xl:∀ {n:Nat} {x:D} {t:T},zi n x=some t→x=t.d∧t.depth≤n∧t.ok=true
 | 0,x,t,h=>by cases h
 | n+1,x,t,h=>by
  unfold zi at h;split at h
  ·rename_i he; cases he
  ·rename_i m k nm l ns pl he;cases he;cases hc:(yn nm&&yn l&&yn ns)
   ·rw [hc] at h; cases h
   ·rw [hc,pw] at h;split at h
    ·rename_i kids nms hk hn;cases hs:nms.all yn
     ·rw [hs] at h; cases h
     ·rw [hs,pw] at h;cases h;obtain ⟨h1,h2⟩:=zv1 hk;simp only [pm] at hc;have key:∀ (l:List D) (m:List T),l.length=m.length→(∀ (i:Nat) x t,l[i]?=some x→m[i]?=some t→zi n x=some t)→l=T.ds m∧T.depths m≤n∧T.oks m=true:=by
       intro l
       induction l with
       | nil=>intro m hl _; cases m with | nil=>exact ⟨rfl,by simp [T.depths],rfl⟩ | cons=>simp at hl
       | cons x r ih=>
        intro m hl hx;cases m with
        | nil=>simp at hl
        | cons t m=>
         obtain ⟨a1,a2,a3⟩:=xl (hx 0 x t rfl rfl);obtain ⟨b1,b2,b3⟩:=ih m (by simpa using hl) λ i y u hy hu=>hx (i+1) y u (by simpa using hy) (by simpa using hu)
         exact ⟨by rw [a1,b1]; rfl,by simp only [T.depths]; omega,by simp only [T.oks,a3,b3]; rfl⟩
      obtain ⟨c1,c2,c3⟩:=key l kids h1 h2;refine ⟨by rw [c1,zjr hn]; rfl,by simp only [T.depth]; omega,?_⟩
      simp only [T.ok,hc.1.1,hs,c3,Bool.and_true,Bool.true_and,pm];refine ⟨?_,?_⟩
      ·have:=hc.1.2; unfold yn at this ⊢; rwa [h1] at this
      ·have:=hc.2; unfold yn at this ⊢; rwa [zjr hn,ph] at this
    ·cases h
  ·cases h
theorem zeq:∀ {n:Nat} {t:T},t.depth≤n→t.ok=true→zi n t.d=some t
 | 0,.mk ..,h,_=>by simp [T.depth] at h
 | n+1,.mk k nm kids nms pl,h,hok=>by
  simp only [T.ok,pm] at hok;have key:∀ m:List T,T.depths m≤n→T.oks m=true→toL (zi n) (T.ds m)=some m:=by
   intro m
   induction m with
   | nil=>intro _ _; rfl
   | cons t m ih=>
    intro hd ho;simp only [T.depths] at hd;simp only [T.oks,pm] at ho;simp only [T.ds,toL,zeq (n:=n) (t:=t) (by omega) ho.1,ih (by omega) ho.2]
  simp only [T.depth] at h;simp only [T.d,zi,zv4,key kids (by omega) hok.2]
  have e1:yn (T.ds kids)=true:=by have:=hok.1.1.1.2; unfold yn at this ⊢; rwa [zu]
  have e2:yn (nms.map D.str)=true:=by have:=hok.1.1.2; unfold yn at this ⊢; rwa [ph]
  rw [hok.1.1.1.1,e1,e2,hok.1.2];rfl
theorem yh{R:Type}{l:List T}{i:Nat}{K:D→Option R}:za (T.ds l) i K=zc l[i]? λ t=>K t.d:=by
 unfold za;rw [zk0,List.getElem?_map];cases l[i]? <;> rfl
theorem yk(t:T):t.d.cells=[.int .i64 t.k,.str t.nm,.sl 5 (T.ds t.kids),.sl 1 (t.nms.map .str),.int .i64 t.pl]:=by cases t; rfl
theorem we(t:T):D.agg [.int .i64 t.k,.str t.nm,.sl 5 (T.ds t.kids),.sl 1 (t.nms.map .str),.int .i64 t.pl]=t.d:=by cases t; rfl
theorem zm9{k nm kids nms pl}:(T.mk k nm kids nms pl).k=k:=rfl
theorem zlw{k nm kids nms pl}:(T.mk k nm kids nms pl).nm=nm:=rfl
theorem zax{k nm kids nms pl}:(T.mk k nm kids nms pl).kids=kids:=rfl
theorem zhk{k nm kids nms pl}:(T.mk k nm kids nms pl).nms=nms:=rfl
theorem z9k{k nm kids nms pl}:(T.mk k nm kids nms pl).pl=pl:=rfl
theorem xu{R:Type}{a:D}{l:List D}{K:D→Option R}:za (a::l) 0 K=K a:=rfl
theorem vk{R:Type}{a b:D}{l:List D}{K:D→Option R}:za (a::b::l) 1 K=K b:=rfl
theorem vj{R:Type}{a b c:D}{l:List D}{K:D→Option R}:za (a::b::c::l) 2 K=K c:=rfl
theorem vi{R:Type}{a b c d:D}{l:List D}{K:D→Option R}:za (a::b::c::d::l) 3 K=K d:=rfl
theorem vh{R:Type}{a b c d e:D}{l:List D}{K:D→Option R}:za (a::b::c::d::e::l) 4 K=K e:=rfl
theorem wt{R:Type}{l:List (List UInt8)}{i:Nat}{K:D→Option R}:za (l.map D.str) i K=zc l[i]? λ t=>K (.str t):=by
 unfold za;rw [List.getElem?_map];cases l[i]? <;> rfl
def z7{α β:Type}(f:Nat)(dec:List V→Option α)(sp:α→Option β)(mk:β→V)(S:CK R1):CK R1 where
 S:=λ g args σ=>bif Nat.beq g f&&σ.isEmpty then zc (dec args) λ q=>zc (sp q) λ b=>some (.ret (mk b),[]) else S.S g args σ
 run:=λ g args σ K=>bif Nat.beq g f&&σ.isEmpty then zc (dec args) λ q=>zc (sp q) λ b=>K (.ret (mk b)) [] else S.run g args σ K
 ok:=λ g a σ K=>by
  show _=zpe _ K;rw [vn,zal];cases Nat.beq g f&&σ.isEmpty
  ·exact S.ok g a σ K
  ·simp only [pw,zal];rfl
theorem zk{α β:Type}{f:Nat}{dec:List V→Option α}{sp:α→Option β}{mk:β→V}{S:CK R1}(hS:knows cx S.S (zj cx))
  (hf:∀ a q b,cx.dom f a=true→dec a=some q→sp q=some b→zj cx f a []=some (.ret (mk b),[])):knows cx (z7 f dec sp mk S).S (zj cx):=by
 intro g args σ r hd h;simp only [z7] at h;cases hg:(Nat.beq g f&&σ.isEmpty) <;> rw [hg] at h
 ·exact hS g args σ r hd h
 ·rw [pm] at hg;obtain rfl:=pj hg.1;obtain rfl:=List.isEmpty_iff.1 hg.2;simp only [pw] at h;obtain ⟨q,hq,h⟩:=zd h;obtain ⟨b,hb,h⟩:=zd h;cases h;exact hf args q b hd hq hb
def K13:CK R1:=more 63 z6y z2s z8p (CK.plain zo)
theorem z4e:knows cx K13.S (zj cx):=v8 zp ya5
def yat(s:List UInt8):V:=.tup [.d (.sl 3 (v6 s)),.d (.int .i64 (zvq s)),.d (.int .i64 (zd4 s))]
def mkB(b:Bool):V:=.d (.bool b)
def mkI(i:Int):V:=.d (.int .i64 i)
def mkS(s:List UInt8):V:=.d (.str s)
def zbw:List V→Option (List UInt8) | [.d (.str s)]=>some s | _=>none
def K73:CK R1:=z7 166 zbw some yat (CK.plain zo)
theorem qi{a:List V}{s}(h:zbw a=some s):a=[.d (.str s)]:=by
 unfold zbw at h; split at h <;> cases h; rfl
theorem z3v:knows cx K73.S (zj cx):=zk zp λ a q b hd h hb=>by
 cases hb;obtain rfl:=qi h;exact yhb q (pc hd)
theorem g36(n:Nat)(s:List UInt8) :
    zn cx K13 n 126 [.d (.str s)] [] =
  zb (decide (s.length≤big))
    (bif decide (zd4 s=0) then
      bif decide ((↑(v6 s).length:Int)=(2:Int)) then
        zb (decide ((0:Int)<(↑(v6 s).length:Int)))
          (za (v6 s) (0:Int).toNat λ y=>
            za y.cells 0 λ c=>
              match c with
              | D.int k' n=>
                bif decide (k'=IntKind.i64) then
                  bif decide (n=(1:Int)) then
                    zb (decide ((0:Int)<(↑(v6 s).length:Int)))
                      (za (v6 s) (0:Int).toNat λ y=>
                        za y.cells 1 λ c=>
                          match c with
                          | D.str s_1=>some (Out.ret (V.d (D.bool (decide (s_1=s)))),[])
                          | x=>none)
                  else some (Out.ret (V.d (D.bool false)),[])
                else none
              | x=>none)
      else some (Out.ret (V.d (D.bool false)),[])
    else
      bif decide (zd4 s=(0:Int)) then some (Out.ret (V.d (D.bool false)),[])
      else some (Out.ret (V.d (D.bool false)),[])):=by kernel_rfl
theorem g41(n:Nat)(s:List UInt8) :
    zn cx K73 n 133 [.d (.str s)] [] =
  zb (decide (s.length≤big))
    (bif decide (zd4 s=(0:Int)) then
      bif decide ((↑(v6 s).length:Int)=(2:Int)) then
        zb (decide ((0:Int)<(↑(v6 s).length:Int)))
          (za (v6 s) (0:Int).toNat λ y=>
            za y.cells 0 λ c=>
              match c with
              | D.int k' n=>
                bif decide (k'=IntKind.i64) then
                  bif decide (n=(1:Int)) then
                    zb (decide ((0:Int)<(↑(v6 s).length:Int)))
                      (za (v6 s) (0:Int).toNat λ y=>
                        za y.cells 1 λ c=>
                          match c with
                          | D.str s_1=>some (Out.ret (V.d (D.bool (decide (s_1=s)))),[])
                          | x=>none)
                  else some (Out.ret (V.d (D.bool false)),[])
                else none
              | x=>none)
      else some (Out.ret (V.d (D.bool false)),[])
    else some (Out.ret (V.d (D.bool false)),[])):=by kernel_rfl
def z3n(s:List UInt8):D→Bool | .agg [.int .i64 k,.str t,.int .i64 _]=>decide (k=1)&&decide (t=s) | _=>false
def z6(s:List UInt8):Bool:=decide (zd4 s=0)&&(match v6 s with | [x,_]=>z3n s x | _=>false)
theorem z0t{s:List UInt8}(h:zd4 s=0)(h2:(v6 s).length=2):∃ k t a y,v6 s=[zj8 k t a,y]:=by
 rcases zmp s with ⟨_,_,l,hl,hc⟩ | ⟨h1,_⟩
 ·have e:v6 s=l:=by unfold v6; rw [hl]
  rw [e] at h2 ⊢;cases hc with
  | fin _ _=>simp at h2
  | tok _ _ _ _ _ h=>
   cases h with
   | fin _ _=>exact ⟨_,_,_,_,rfl⟩
   | tok _ _ _ _ _ h=>have:=h.ne; simp only [py] at h2; omega
 ·exact absurd h h1
theorem zwp{s:List UInt8}(h2:(v6 s).length ≠ 2):z6 s=false:=by
 unfold z6;split
 ·rename_i x y h; rw [h] at h2; simp at h2
 ·simp
theorem z5v(s:List UInt8)(hs:s.length≤big):zj cx 126 [.d (.str s)] []=some (.ret (.d (.bool (z6 s))),[]):=by
 refine zm z4e (N:=0) ?_;rw [g36,pa hs];by_cases h:zd4 s=0
 ·rw [pa h];by_cases h2:(v6 s).length=2
  ·obtain ⟨k,t,a,y,hl⟩:=z0t h h2;have e:z6 s=(decide (k=1)&&decide (t=s)):=by unfold z6; rw [h,hl]; rfl
   rw [e,hl];show (bif decide (k=1) then _ else _)=_;cases decide (k=1) <;> rfl
  ·rw [zwp h2,pb (p:=((v6 s).length:Int)=2) (by omega)]
   rfl
 ·have e:z6 s=false:=by unfold z6; rw [pb h]; rfl
  rw [pb h,e];rfl
theorem z9v(s:List UInt8)(hs:s.length≤big):zj cx 133 [.d (.str s)] []=some (.ret (.d (.bool (z6 s))),[]):=by
 refine zm z3v (N:=0) ?_;rw [g41,pa hs];by_cases h:zd4 s=0
 ·rw [pa h];by_cases h2:(v6 s).length=2
  ·obtain ⟨k,t,a,y,hl⟩:=z0t h h2;have e:z6 s=(decide (k=1)&&decide (t=s)):=by unfold z6; rw [h,hl]; rfl
   rw [e,hl];show (bif decide (k=1) then _ else _)=_;cases decide (k=1) <;> rfl
  ·rw [zwp h2,pb (p:=((v6 s).length:Int)=2) (by omega)]
   rfl
 ·have e:z6 s=false:=by unfold z6; rw [pb h]; rfl
  rw [pb h,e];rfl
def K1:CK R1:=z7 126 zbw (λ s=>some (z6 s)) mkB (z7 170 zbw (λ s=>some (!z6 s)) mkB (z7 133 zbw (λ s=>some (z6 s)) mkB (CK.plain zo)))
theorem g85(n:Nat)(s:List UInt8) :
    zn cx (z7 126 zbw (λ s=>some (z6 s)) mkB (CK.plain zo)) n 170 [.d (.str s)] [] =
  zb (decide (s.length≤big)) (some (Out.ret (V.d (D.bool (!z6 s))),[])):=by kernel_rfl
theorem zg3:knows cx K1.S (zj cx):=by
 have h0:knows cx (CK.plain (R:=R1) zo).S (zj cx):=zp;have h41:=zk (f:=133) (dec:=zbw) (sp:=λ s=>some (z6 s)) (mk:=mkB) h0 λ a q b hd h hb=>by
  cases hb; obtain rfl:=qi h; exact z9v q (pc hd)
 have h36:=zk (f:=126) (dec:=zbw) (sp:=λ s=>some (z6 s)) (mk:=mkB) h0 λ a q b hd h hb=>by
  cases hb; obtain rfl:=qi h; exact z5v q (pc hd)
 have h85:=zk (f:=170) (dec:=zbw) (sp:=λ s=>some (!z6 s)) (mk:=mkB) h41 λ a q b hd h hb=>by
  cases hb; obtain rfl:=qi h;refine zm h36 (N:=0) ?_;rw [g85,pa (pc hd)];rfl
 exact zk h85 λ a q b hd h hb=>by
  cases hb; obtain rfl:=qi h; exact z5v q (pc hd)
def xh{α:Type}(p:α→Bool):List α→Nat→Option Nat
 | [],_=>none
 | x::r,j=>bif p x then some j else xh p r (j+1)
def wi{α:Type}(p:α→Bool)(l:List α):Int:=match xh p l 0 with | some j=>(j:Int) | none=>-1
theorem zbh{α:Type}{p:α→Bool}:∀ (l:List α) (j:Nat),(xh p l j).isSome=l.any p
 | [],_=>rfl
 | x::r,j=>by
  simp only [xh,List.any_cons];cases p x
  ·simp only [px,Bool.false_or]; exact zbh r (j+1)
  ·rfl
theorem zhp{α:Type}{p:α→Bool}(l:List α):decide ((0:Int)≤wi p l)=l.any p:=by
 rw [←zbh l 0];unfold wi;cases xh p l 0 with
 | none=>rfl
 | some j=>exact pa (Int.natCast_nonneg j)
theorem yf{j n:Nat}(h:j<n):decide ((j:Int)<(n:Int))=true:=pa (by omega)
theorem yw{n:Nat}:decide ((n:Int)<(n:Int))=false:=pb (by omega)
theorem y8{j:Nat}:decide ((0:Int)≤(j:Int))=true:=pa (by omega)
theorem za0{α:Type}{l r:List α}{x:α}{j:Nat}(h:l.drop j=x::r):j<l.length∧l[j]?=some x∧l.drop (j+1)=r:=by
 have h1:j<l.length:=by
  by_cases h':j<l.length
  ·exact h'
  ·rw [List.drop_eq_nil_of_le (by omega)] at h; cases h
 rw [List.drop_eq_getElem_cons h1] at h;injection h with h2 h3;exact ⟨h1,by rw [p4 h1,h2],h3⟩
theorem w9{j n:Nat}(h:j<n)(hn:n<4294967296):IntKind.i64.wrap ((j:Int)+1)=((j+1:Nat):Int):=by
 rw [IntWalk.i64_in _ (by omega)]; rfl
theorem zfa{R α:Type}(L:Nat→Int→Option R)(xs:List α)(p:α→Bool)(B:Nat→Option R)(E:Option R)(hs:xs.length<4294967296)
  (H:∀ (k j:Nat) x,j<xs.length→xs[j]?=some x→L (k+1) j=bif p x then B j else L k (IntKind.i64.wrap ((j:Int)+1))) (HE:∀ k,L (k+1) xs.length=E) :
  ∀ (r:List α) (j k:Nat),xs.drop j=r→j≤xs.length→r.length<k→L k j=match xh p r j with | some i=>B i | none=>E
 | [],j,k,hd,hj,hk=>by
  obtain ⟨k,rfl⟩:∃ i,k=i+1:=⟨k - 1,by omega⟩
  have:xs.length≤j:=by simpa using hd
  obtain rfl:j=xs.length:=by omega
  exact HE k
 | x::r,j,k,hd,hj,hk=>by
  obtain ⟨k,rfl⟩:∃ i,k=i+1:=⟨k - 1,by omega⟩
  obtain ⟨h1,h2,h3⟩:=za0 hd;rw [H k j x h1 h2,xh];cases p x
  ·rw [px,px,w9 h1 hs];exact zfa L xs p B E hs H HE r (j+1) k h3 h1 (by simp at hk; omega)
  ·rfl
theorem vr{R α:Type}(L:Nat→Int→Option R)(xs:List α)(p:α→Bool)(B:Nat→Option R)(E:Option R)(hs:xs.length<4294967296)
  (H:∀ (k j:Nat) x,j<xs.length→xs[j]?=some x→L (k+1) j=bif p x then B j else L k (IntKind.i64.wrap ((j:Int)+1))) (HE:∀ k,L (k+1) xs.length=E) {k:Nat} (hk:xs.length<k) :
  L k 0=match xh p xs 0 with | some i=>B i | none=>E:=zfa L xs p B E hs H HE xs 0 k rfl (Nat.zero_le _) hk
theorem yp{α:Type}{l:List α}(h:yn l=true):l.length<4294967296:=pc h
theorem zaj{s:List UInt8}(h:yn s=true):decide (s.length≤big)=true:=pa (by have:=yp h; unfold big; omega)
theorem z7b{α:Type}{p:α→Bool}{l:List α}(h:l.all p=true){j:Nat}{x:α}(hx:l[j]?=some x):p x=true:=List.all_eq_true.1 h x (pq hx)
theorem yhr(n:Nat)(l:List (List UInt8)) :
    zn cx K1 n 106 [.d (.sl 1 (l.map .str)),.func 170 []] [] =
  LP cx K1 n 106 0 2 n
    [(0,V.d (D.sl 1 (List.map D.str l))),(1,V.func 170 []),
      (7,V.d (D.int .i64 (↑(List.map D.str l).length:Int))),(8,V.d (D.int .i64 (0:Int)))]
    [] (AK cx K1 n 106 0 2 (EK cx 106 0)):=by kernel_rfl
theorem yer(n k:Nat)(l:List (List UInt8))(i:Int) :
    LP cx K1 n 106 0 2 (k+1) [(0,V.d (D.sl 1 (List.map D.str l))),(1,V.func 170 []),(7,V.d (D.int .i64 (l.length:Int))),(8,V.d (D.int .i64 i))] [] (AK cx K1 n 106 0 2 (EK cx 106 0)) =
  bif decide (i<(↑l.length:Int)) then
    zb (decide (0≤i)&&decide (i<(↑(List.map D.str l).length:Int)))
      (za (List.map D.str l) i.toNat λ y=>
        za y.cells 0 λ c=>
          match c with
          | D.str s=>
            zb (decide (s.length≤big))
              (bif !z6 s then some (Out.ret (V.d (D.int .i64 i)),[])
              else
                LP cx K1 n 106 0 2 k
                  [(0,V.d (D.sl 1 (List.map D.str l))),(1,V.func 170 []),
                    (7,V.d (D.int .i64 (↑l.length:Int))),
                    (8,V.d (D.int .i64 (IntKind.i64.wrap (i+(1:Int)))))]
                  [] (AK cx K1 n 106 0 2 (EK cx 106 0)))
          | x=>none)
  else some (Out.ret (V.d (D.int .i64 (Int.negSucc 0))),[]):=by kernel_rfl
theorem g75(n:Nat)(l:List (List UInt8)) :
    zn cx K1 n 96 [.d (.sl 1 (l.map .str))] [] =
  LP cx K1 n 96 0 2 n [(0,V.d (D.sl 1 (List.map D.str l))),(3,V.d (D.int .i64 (0:Int)))] []
    (AK cx K1 n 96 0 2 (EK cx 96 0)):=by kernel_rfl
theorem l75(n k:Nat)(l:List (List UInt8))(i:Int) :
    LP cx K1 n 96 0 2 (k+1) [(0,V.d (D.sl 1 (List.map D.str l))),(3,V.d (D.int .i64 i))] [] (AK cx K1 n 96 0 2 (EK cx 96 0)) =
  bif decide (i<(↑(List.map D.str l).length:Int)) then
    zb (decide (0≤i)&&decide (i<(↑(List.map D.str l).length:Int)))
      (za (List.map D.str l) i.toNat λ y=>
        za y.cells 0 λ c=>
          match c with
          | D.str s=>
            zb (decide (s.length≤big))
              (bif !z6 s then some (Out.ret (V.d (D.bool false)),[])
              else
                LP cx K1 n 96 0 2 k
                  [(0,V.d (D.sl 1 (List.map D.str l))),
                    (3,V.d (D.int .i64 (IntKind.i64.wrap (i+(1:Int)))))]
                  [] (AK cx K1 n 96 0 2 (EK cx 96 0)))
          | x=>none)
  else some (Out.ret (V.d (D.bool true)),[]):=by kernel_rfl
theorem ya8(l:List (List UInt8))(hl:yn l=true)(ha:l.all yn=true):zj cx 106 [.d (.sl 1 (l.map .str)),.func 170 []] []=some (.ret (.d (.int .i64 (wi (λ s=>!z6 s) l))),[]):=by
 refine zm zg3 (N:=l.length+1) ?_;rw [yhr]
 have h:=zfa (λ k i=>LP cx K1 (l.length+1) 106 0 2 k [(0,V.d (D.sl 1 (List.map D.str l))),(1,V.func 170 []),(7,V.d (D.int .i64 (l.length:Int))),(8,V.d (D.int .i64 i))] [] (AK cx K1 (l.length+1) 106 0 2 (EK cx 106 0)))
  l (λ s=>!z6 s) (λ j=>some (Out.ret (V.d (D.int .i64 j)),[])) (some (Out.ret (V.d (D.int .i64 (Int.negSucc 0))),[])) (yp hl)
  (λ k j x hj hx=>by
   rw [yer,ph,yf hj,y8,wt,po,hx];simp only [pw,zb,zc,Bool.and_self];show zb (decide (x.length≤big)) _=_;rw [zaj (z7b ha hx)];rfl) (λ k=>by rw [yer,yw,px]) l 0 (l.length+1) rfl (Nat.zero_le _) (by omega)
 rw [ph];refine h.trans ?_;unfold wi;cases xh (λ s=>!z6 s) l 0 <;> rfl
def zg2:D→Option (List (List UInt8)) | .sl 1 l=>(match strs l with | some m=>bif yn m&&m.all yn then some m else none | none=>none) | _=>none
def ql:List V→Option D | [.d x]=>some x | _=>none
def zir(c:Nat):List V→Option D | [.d x,.func g []]=>bif Nat.beq g c then some x else none | _=>none
theorem wu{a:List V}{x:D}(h:ql a=some x):a=[.d x]:=by
 unfold ql at h;split at h
 ·cases h; rfl
 ·cases h
theorem zd2{a:List V}{c:Nat}{x:D}(h:zir c a=some x):a=[.d x,.func c []]:=by
 unfold zir at h;split at h
 ·rename_i x g;cases hc:Nat.beq g c <;> rw [hc] at h
  ·cases h
  ·obtain rfl:=pj hc;cases h; rfl
 ·cases h
theorem zlv{x:D}{m}(h:zg2 x=some m):x=.sl 1 (m.map .str)∧yn m=true∧m.all yn=true:=by
 unfold zg2 at h;split at h
 ·split at h
  ·rename_i m' hm;cases hc:(yn m'&&m'.all yn) <;> rw [hc] at h
   ·cases h
   ·cases h;rw [pm] at hc;exact ⟨by rw [zjr hm],hc⟩
  ·cases h
 ·cases h
theorem zwm{m:List (List UInt8)}(h1:yn m=true)(h2:m.all yn=true):zg2 (.sl 1 (m.map .str))=some m:=by
 unfold zg2;simp only [zv4,h1,h2];rfl
def K2:CK R1:=z7 106 (zir 170) zg2 (λ l=>mkI (wi (λ s=>!z6 s) l)) K1
theorem zyf:knows cx K2.S (zj cx):=zk zg3 λ a q b hd h hb=>by
 obtain rfl:=zd2 h;obtain ⟨rfl,h1,h2⟩:=zlv hb;exact ya8 b h1 h2
theorem ydl(l:List (List UInt8))(hl:yn l=true)(ha:l.all yn=true):zj cx 96 [.d (.sl 1 (l.map .str))] []=some (.ret (.d (.bool (l.all z6))),[]):=by
 refine zm zg3 (N:=l.length+1) ?_;rw [g75]
 have h:=zfa (λ k i=>LP cx K1 (l.length+1) 96 0 2 k [(0,V.d (D.sl 1 (List.map D.str l))),(3,V.d (D.int .i64 i))] [] (AK cx K1 (l.length+1) 96 0 2 (EK cx 96 0)))
  l (λ s=>!z6 s) (λ j=>some (Out.ret (V.d (D.bool false)),[])) (some (Out.ret (V.d (D.bool true)),[])) (yp hl)
  (λ k j x hj hx=>by
   rw [l75,ph,yf hj,y8,wt,po,hx];simp only [pw,zb,zc,Bool.and_self];show zb (decide (x.length≤big)) _=_;rw [zaj (z7b ha hx)];rfl) (λ k=>by rw [l75,ph,yw,px]) l 0 (l.length+1) rfl (Nat.zero_le _) (by omega)
 refine h.trans ?_;have e:l.all z6 = !(l.any λ s=>!z6 s):=by rw [List.not_any_eq_all_not]; simp
 rw [e,←zbh l 0];cases xh (λ s=>!z6 s) l 0 <;> rfl
open Classical in
def zr(x:D):Option T:=if h:∃ t:T,x=t.d∧t.ok=true then some h.choose else none
theorem wv{x:D}{t:T}(h:zr x=some t):x=t.d∧t.ok=true:=by
 unfold zr at h;split at h
 ·rename_i hex; cases h; exact hex.choose_spec
 ·cases h
theorem yff{t u:T}(ht:t.ok=true)(hu:u.ok=true)(h:t.d=u.d):t=u:=by
 have h1:=zeq (n:=max t.depth u.depth) (t:=t) (by omega) ht
 have h2:=zeq (n:=max t.depth u.depth) (t:=u) (by omega) hu
 rw [h,h2] at h1;exact (Option.some.inj h1).symm
theorem zij{t:T}(h:t.ok=true):zr t.d=some t:=by
 have hex:∃ u:T,t.d=u.d∧u.ok=true:=⟨t,rfl,h⟩;unfold zr;rw [dif_pos hex];obtain ⟨h1,h2⟩:=hex.choose_spec;rw [←yff h h2 h1]
def yt:T×Int×Int×Bool→Bool
 | (.mk _ nm kids nms _,a,b,w)=>decide ((kids.length:Int)=a)&&decide ((nms.length:Int)=b)&&(w||decide (nm=[]))&&nms.all z6
def zla(s:List UInt8):Bool:=decide (s=[48])||decide (s=[49])
def zz:T→Bool
 | .mk k nm [] nms _=>decide (nms=[])&&((decide (k=1)&&z6 nm)||(decide (k=17)&&zla nm))
 | .mk k nm [a] nms _=>decide (k=16)&&decide (nm=[])&&decide (nms=[])&&zz a
 | .mk k nm [a,b] nms _=>(decide (k=14)||decide (k=15))&&decide (nm=[])&&decide (nms=[])&&zz a&&zz b
 | _=>false
def zap:T→Bool
 | .mk k nm [] [x] _=>decide (k=13)&&z6 nm&&zla x
 | _=>false
def zao:T→Bool
 | .mk k nm kids nms _=>decide (k=12)&&decide (nm=[])&&decide (nms=[])&&kids.all zap
mutual
def zg:T→Bool
 | .mk k nm [] nms _=>decide (nms=[])&&((decide (k=1)&&z6 nm)||(decide (k=10)&&decide (nm=[])))
 | .mk k nm [a] nms _=>decide (nm=[])&&(((decide (k=2)||decide (k=3))&&!decide (nms=[])&&nms.all z6&&zg a)||(decide (k=10)&&decide (nms=[])&&ym a))
 | .mk k nm [a,b] nms _=>decide (nm=[])&&(((decide (k=4)||decide (k=5))&&decide (nms.length<2)&&nms.all z6&&zg a&&zg b) ||
   ((decide (k=6)||decide (k=8)||decide (k=9))&&decide (nms=[])&&zg a&&zg b)||(decide (k=7)&&decide (nms=[])&&zg a&&zz b)||(decide (k=10)&&decide (nms=[])&&ym a&&ym b))
 | .mk k nm (a::b::c::l) nms _=>decide (nm=[])&&decide (k=10)&&decide (nms=[])&&(ym a&&ym b&&ym c&&zmj l)
def ym:T→Bool
 | .mk k nm [f] nms _=>decide (k=11)&&decide (nm=[])&&decide (nms=[])&&zao f
 | .mk k nm [f,u] nms _=>decide (k=11)&&decide (nm=[])&&decide (nms=[])&&zao f&&zg u
 | _=>false
def zmj:List T→Bool
 | []=>true
 | t::l=>ym t&&zmj l
end
theorem zgw:∀ l:List T,zmj l=l.all ym
 | []=>rfl
 | t::l=>by rw [zmj,zgw l,List.all_cons]
def z6p:List V→Option (D×Int×Int×Bool)
 | [.d x,.d (.int .i64 a),.d (.int .i64 b),.d (.bool w)]=>some (x,a,b,w)
 | _=>none
theorem zzo{a:List V}{q}(h:z6p a=some q):a=[.d q.1,.d (.int .i64 q.2.1),.d (.int .i64 q.2.2.1),.d (.bool q.2.2.2)]:=by
 unfold z6p at h;split at h
 ·cases h; rfl
 ·cases h
def K3:CK R1:=z7 78 (zir 170) zg2 (λ l=>mkB (l.any (λ s=>!z6 s))) K2
def K4:CK R1:=z7 136 z6p (λ q=>zc (zr q.1) λ t=>some (t,q.2)) (λ q=>mkB (yt q)) K3
def qy(f:D→Option T):D→Option (List T) | .sl 5 l=>(match toL f l with | some m=>bif yn m then some m else none | none=>none) | _=>none
theorem zfy{f:D→Option T}{x:D}{m:List T}(h:qy f x=some m):∃ l,x=.sl 5 l∧toL f l=some m∧yn m=true:=by
 unfold qy at h;split at h
 ·split at h
  ·rename_i l q hq;cases hs:yn q <;> rw [hs] at h
   ·cases h
   ·cases h; exact ⟨_,rfl,hq,hs⟩
  ·cases h
 ·cases h
theorem zg4{f:D→Option T}(hf:∀ x t,f x=some t→x=t.d):∀ {l:List D} {m:List T},toL f l=some m→l=T.ds m∧∀ t∈m,f t.d=some t
 | [],m,h=>by cases h; exact ⟨rfl,λ t ht=>by cases ht⟩
 | x::r,m,h=>by
  unfold toL at h;split at h
  ·rename_i t l ht hl;cases h;obtain ⟨h1,h2⟩:=zg4 hf hl;have hx:=hf x t ht;refine ⟨by rw [hx,h1]; rfl,λ u hu=>?_⟩
   cases hu with
   | head=>rw [←hx]; exact ht
   | tail _ hu=>exact h2 u hu
  ·cases h
theorem zoy{f:D→Option T}:∀ {m:List T},(∀ t∈m,f t.d=some t)→yn m=true→qy f (.sl 5 (T.ds m))=some m:=by
 intro m h hs;have key:∀ l:List T,(∀ t∈l,f t.d=some t)→toL f (T.ds l)=some l:=by
  intro l
  induction l with
  | nil=>intro _; rfl
  | cons t l ih=>
   intro h;simp only [T.ds,toL,h t (pp ..),ih λ u hu=>h u (pr _ hu)]
 simp only [qy,key m h,hs];rfl
theorem z86{l:List (List UInt8)}:(!l.any λ s=>!z6 s)=l.all z6:=by rw [List.not_any_eq_all_not]; simp
theorem vo{k:Int}{nm:List UInt8}{kids:List T}{nms:List (List UInt8)}{pl:Int}(h:(T.mk k nm kids nms pl).ok=true):yn nm=true∧yn kids=true∧yn nms=true∧nms.all yn=true∧T.oks kids=true:=by
 simp only [T.ok,pm] at h;exact ⟨h.1.1.1.1,h.1.1.1.2,h.1.1.2,h.1.2,h.2⟩
theorem qk{k:Int}{nm:List UInt8}{kids:List T}{nms:List (List UInt8)}{pl:Int}{m:Nat}(h:(T.mk k nm kids nms pl).depth≤m+1):T.depths kids≤m:=by
 simp only [T.depth] at h; omega
theorem zay{t:T}{l:List T}{m:Nat}(hd:T.depths l≤m)(ho:T.oks l=true)(h:t∈l):zi m t.d=some t:=
 zeq (Nat.le_trans (zgy h) hd) (wx ho h)
theorem zd8{t:T}{l:List T}(ho:T.oks l=true)(h:t∈l):zr t.d=some t:=zij (wx ho h)
theorem g84(n:Nat)(l:List (List UInt8)):zn cx K2 n 78 [.d (.sl 1 (l.map .str)),.func 170 []] []=zc (zg2 (D.sl 1 (List.map D.str l))) λ b=>some (Out.ret (V.d (D.bool (decide ((0:Int)≤wi (λ s=>!z6 s) b)))),[]):=by kernel_rfl
theorem g61(n:Nat)(k:Int)(nm:List UInt8)(kids:List T)(nms:List (List UInt8))(pl a b:Int)(w:Bool):zn cx K3 n 136 [.d (.agg [.int .i64 k,.str nm,.sl 5 (T.ds kids),.sl 1 (nms.map .str),.int .i64 pl]),.d (.int .i64 a),.d (.int .i64 b),.d (.bool w)] []=bif !decide ((↑(T.ds kids).length:Int)=a) then some (Out.ret (V.d (D.bool false)),[]) else bif !decide ((↑(List.map D.str nms).length:Int)=b) then some (Out.ret (V.d (D.bool false)),[]) else bif !w then bif !decide (nm=[]) then some (Out.ret (V.d (D.bool false)),[]) else zc (zg2 (D.sl 1 (List.map D.str nms))) λ b=>some (Out.ret (V.d (D.bool !b.any λ s=>!z6 s)),[]) else zc (zg2 (D.sl 1 (List.map D.str nms))) λ b=>some (Out.ret (V.d (D.bool !b.any λ s=>!z6 s)),[]):=by kernel_rfl
theorem ydh(l:List (List UInt8))(h1:yn l=true)(h2:l.all yn=true):zj cx 78 [.d (.sl 1 (l.map .str)),.func 170 []] []=some (.ret (mkB (l.any λ s=>!z6 s)),[]):=by
 refine zm zyf (N:=0) ?_;rw [g84,zwm h1 h2,←zhp];rfl
theorem zye:knows cx K3.S (zj cx):=zk zyf λ a q b hd h hb=>by
 obtain rfl:=zd2 h;obtain ⟨rfl,h1,h2⟩:=zlv hb;exact ydh b h1 h2
theorem yds(t:T)(a b:Int)(w:Bool)(h:t.ok=true):zj cx 136 [.d t.d,.d (.int .i64 a),.d (.int .i64 b),.d (.bool w)] []=some (.ret (mkB (yt (t,a,b,w))),[]):=by
 obtain ⟨k,nm,kids,nms,pl⟩:=t;obtain ⟨h1,h2,h3,h4,h5⟩:=vo h;refine zm zye (N:=0) ?_;refine (g61 0 k nm kids nms pl a b w).trans ?_;rw [zwm h3 h4,zu,ph];simp only [zc,z86,yt,mkB];cases decide ((kids.length:Int)=a) <;> cases decide ((nms.length:Int)=b) <;> cases w <;> cases decide (nm=[]) <;> rfl
theorem zrh:knows cx K4.S (zj cx):=zk zye λ a q b hd h hb=>by
 obtain rfl:=zzo h;obtain ⟨t,ht,hb⟩:=zd hb;cases hb;obtain ⟨he,h1⟩:=wv ht;rw [he];exact yds t _ _ _ h1
theorem g88(n:Nat)(k:Int)(nm:List UInt8)(kids:List T)(nms:List (List UInt8))(pl:Int):zn cx K4 n 172 [.d (.agg [.int .i64 k,.str nm,.sl 5 (T.ds kids),.sl 1 (nms.map .str),.int .i64 pl])] []=bif decide (k=(13:Int)) then bif decide ((↑(T.ds kids).length:Int)=(0:Int)) then zb (decide (nm.length≤big)) (bif z6 nm then bif decide ((↑(List.map D.str nms).length:Int)=(1:Int)) then zb (decide ((0:Int)<(↑(List.map D.str nms).length:Int))) (za (List.map D.str nms) (0:Int).toNat λ y=>za y.cells 0 λ c=>match c with
 | D.str s=>bif decide (s=[48]) then some (Out.ret (V.d (D.bool true)),[]) else zb (decide ((0:Int)<(↑(List.map D.str nms).length:Int))) (za (List.map D.str nms) (0:Int).toNat λ y=>za y.cells 0 λ c=>match c with
  | D.str s=>some (Out.ret (V.d (D.bool (decide (s=[49])))),[])
  | x=>none)
 | x=>none) else some (Out.ret (V.d (D.bool false)),[]) else some (Out.ret (V.d (D.bool false)),[])) else some (Out.ret (V.d (D.bool false)),[]) else some (Out.ret (V.d (D.bool false)),[]):=by kernel_rfl
theorem g62(n m:Nat)(k:Int)(nm:List UInt8)(kids:List T)(nms:List (List UInt8))(pl:Int):zn cx (z7 137 ql (zi m) (λ t=>mkB (zz t)) K4) n 137 [.d (.agg [.int .i64 k,.str nm,.sl 5 (T.ds kids),.sl 1 (nms.map .str),.int .i64 pl])] []=bif decide (k=(1:Int)) then zc (zc (zr (D.agg [D.int .i64 k,D.str nm,D.sl 5 (T.ds kids),D.sl 1 (List.map D.str nms),D.int .i64 pl],(0:Int),(0:Int),true).fst) λ t=>some (t,(0:Int),(0:Int),true)) λ b=>bif yt b then zb (decide (nm.length≤big)) (some (Out.ret (V.d (D.bool (z6 nm))),[])) else some (Out.ret (V.d (D.bool false)),[]) else bif decide (k=(17:Int)) then zc (zc (zr (D.agg [D.int .i64 k,D.str nm,D.sl 5 (T.ds kids),D.sl 1 (List.map D.str nms),D.int .i64 pl],(0:Int),(0:Int),true).fst) λ t=>some (t,(0:Int),(0:Int),true)) λ b=>bif yt b then bif decide (nm=[48]) then some (Out.ret (V.d (D.bool true)),[]) else some (Out.ret (V.d (D.bool (decide (nm=[49])))),[]) else some (Out.ret (V.d (D.bool false)),[]) else bif decide (k=(16:Int)) then zc (zc (zr (D.agg [D.int .i64 k,D.str nm,D.sl 5 (T.ds kids),D.sl 1 (List.map D.str nms),D.int .i64 pl],(1:Int),(0:Int),false).fst) λ t=>some (t,(1:Int),(0:Int),false)) λ b=>bif yt b then zb (decide ((0:Int)<(↑(T.ds kids).length:Int))) (za (T.ds kids) (0:Int).toNat λ y=>za y.cells 0 λ c=>za y.cells 1 λ c_1=>za y.cells 2 λ c_2=>za y.cells 3 λ c_3=>za y.cells 4 λ c_4=>zc (zi m (D.agg [c,c_1,c_2,c_3,c_4])) λ b=>some (Out.ret (V.d (D.bool (zz b))),[])) else some (Out.ret (V.d (D.bool false)),[]) else bif decide (k=(15:Int)) then bif decide (k=(15:Int)) then zc (zc (zr (D.agg [D.int .i64 k,D.str nm,D.sl 5 (T.ds kids),D.sl 1 (List.map D.str nms),D.int .i64 pl],(2:Int),(0:Int),false).fst) λ t=>some (t,(2:Int),(0:Int),false)) λ b=>bif yt b then zb (decide ((0:Int)<(↑(T.ds kids).length:Int))) (za (T.ds kids) (0:Int).toNat λ y=>za y.cells 0 λ c=>za y.cells 1 λ c_1=>za y.cells 2 λ c_2=>za y.cells 3 λ c_3=>za y.cells 4 λ c_4=>zc (zi m (D.agg [c,c_1,c_2,c_3,c_4])) λ b=>bif zz b then zb (decide ((1:Int)<(↑(T.ds kids).length:Int))) (za (T.ds kids) (1:Int).toNat λ y=>za y.cells 0 λ c=>za y.cells 1 λ c_5=>za y.cells 2 λ c_6=>za y.cells 3 λ c_7=>za y.cells 4 λ c_8=>zc (zi m (D.agg [c,c_5,c_6,c_7,c_8])) λ b=>some (Out.ret (V.d (D.bool (zz b))),[])) else some (Out.ret (V.d (D.bool false)),[])) else some (Out.ret (V.d (D.bool false)),[]) else some (Out.ret (V.d (D.bool false)),[]) else bif decide (k=(14:Int)) then zc (zc (zr (D.agg [D.int .i64 k,D.str nm,D.sl 5 (T.ds kids),D.sl 1 (List.map D.str nms),D.int .i64 pl],(2:Int),(0:Int),false).fst) λ t=>some (t,(2:Int),(0:Int),false)) λ b=>bif yt b then zb (decide ((0:Int)<(↑(T.ds kids).length:Int))) (za (T.ds kids) (0:Int).toNat λ y=>za y.cells 0 λ c=>za y.cells 1 λ c_1=>za y.cells 2 λ c_2=>za y.cells 3 λ c_3=>za y.cells 4 λ c_4=>zc (zi m (D.agg [c,c_1,c_2,c_3,c_4])) λ b=>bif zz b then zb (decide ((1:Int)<(↑(T.ds kids).length:Int))) (za (T.ds kids) (1:Int).toNat λ y=>za y.cells 0 λ c=>za y.cells 1 λ c_5=>za y.cells 2 λ c_6=>za y.cells 3 λ c_7=>za y.cells 4 λ c_8=>zc (zi m (D.agg [c,c_5,c_6,c_7,c_8])) λ b=>some (Out.ret (V.d (D.bool (zz b))),[])) else some (Out.ret (V.d (D.bool false)),[])) else some (Out.ret (V.d (D.bool false)),[]) else some (Out.ret (V.d (D.bool false)),[]):=by kernel_rfl
theorem yba{α:Type}(l:List α)(n:Nat):decide ((l.length:Int)=(n:Int))=decide (l.length=n):=by
 by_cases h:l.length=n
 ·rw [pa h,pa (by omega)]
 ·rw [pb h,pb (by omega)]
theorem zps{α:Type}(l:List α):decide ((l.length:Int)=0)=decide (l.length=0):=yba l 0
theorem zm4{α:Type}(l:List α):decide ((l.length:Int)=1)=decide (l.length=1):=yba l 1
theorem zuw{α:Type}(l:List α):decide ((l.length:Int)=2)=decide (l.length=2):=yba l 2
theorem zl1{α:Type}(l:List α):decide ((0:Int)<(l.length:Int))=decide (0<l.length):=by
 by_cases h:0<l.length
 ·rw [pa h,pa (by omega)]
 ·rw [pb h,pb (by omega)]
theorem znx{α:Type}(l:List α):decide ((1:Int)<(l.length:Int))=decide (1<l.length):=by
 by_cases h:1<l.length
 ·rw [pa h,pa (by omega)]
 ·rw [pb h,pb (by omega)]
theorem zce{c x:Bool}{σ:St}:(bif c then some (Out.ret (V.d (D.bool x)),σ) else some (Out.ret (V.d (D.bool false)),σ))=some (Out.ret (V.d (D.bool (c&&x))),σ):=by cases c <;> rfl
theorem zh1{c x:Bool}{σ:St}:(bif c then some (Out.ret (V.d (D.bool true)),σ) else some (Out.ret (V.d (D.bool x)),σ))=some (Out.ret (V.d (D.bool (c||x))),σ):=by cases c <;> rfl
theorem ydg(t:T)(h:t.ok=true):zj cx 172 [.d t.d] []=some (.ret (mkB (zap t)),[]):=by
 obtain ⟨k,nm,kids,nms,pl⟩:=t;obtain ⟨h1,h2,h3,h4,h5⟩:=vo h;refine zm zrh (N:=0) ?_;refine (g88 0 k nm kids nms pl).trans ?_;simp only [zu,ph,zaj h1,zps,zm4,zl1,wt];have hk:k=13∨k ≠ 13:=by omega
 rcases hk with rfl | hk <;> rcases kids with _ | ⟨a,kids⟩ <;> rcases nms with _ | ⟨x,_ | ⟨y,nms⟩⟩ <;> simp [zap,mkB,zb,zc,zla,zce,zh1, *]
 show (bif z6 nm then (bif decide (x=[48]) then _ else some (Out.ret (V.d (D.bool (decide (x=[49])))),[])) else _)=_;simp only [zh1,zce]
theorem z9s:∀ (m:Nat) (t:T),t.depth≤m→t.ok=true→zj cx 137 [.d t.d] []=some (.ret (mkB (zz t)),[])
 | 0,.mk ..,h,_=>by simp [T.depth] at h
 | m+1,.mk k nm kids nms pl,hd,ho=>by
  have hK:knows cx (z7 137 ql (zi m) (λ t=>mkB (zz t)) K4).S (zj cx):=zk zrh λ a q b _ h hb=>by
   obtain rfl:=wu h;obtain ⟨rfl,h1,h2⟩:=xl hb;exact z9s m b h1 h2
  obtain ⟨h1,h2,h3,h4,h5⟩:=vo ho;have hkd:=qk hd;refine zm hK (N:=0) ?_;refine (g62 0 m k nm kids nms pl).trans ?_;have hC:zr (D.agg [D.int .i64 k,D.str nm,D.sl 5 (T.ds kids),D.sl 1 (List.map D.str nms),D.int .i64 pl])=some (.mk k nm kids nms pl):=zij ho;have hT:∀ t∈kids,zi m t.d=some t:=λ t h=>zay hkd h5 h;simp only [hC,zc,zu,zaj h1,zb,pw,yh,yk,xu,vk,vj,vi,vh,we,yt,zps,zm4,zuw,zl1,znx];clear hC hK ho hd;have hk:k=1∨k=17∨k=16∨k=15∨k=14∨(k ≠ 1∧k ≠ 17∧k ≠ 16∧k ≠ 15∧k ≠ 14):=by omega
  rcases hk with rfl | rfl | rfl | rfl | rfl | ⟨q1,q2,q3,q4,q5⟩ <;> rcases kids with _ | ⟨a,_ | ⟨b,_ | ⟨c,l⟩⟩⟩ <;> rcases nms with _ | ⟨x,nms⟩ <;> simp [zz,mkB,zla,hT,zce,zh1,Bool.and_assoc, *]
def K5:CK R1:=z7 137 ql zr (λ t=>mkB (zz t)) (z7 172 ql zr (λ t=>mkB (zap t)) K4)
theorem zem:knows cx K5.S (zj cx):=by
 have h88:=zk (f:=172) (dec:=ql) (sp:=zr) (mk:=λ t=>mkB (zap t)) zrh λ a q b hd h hb=>by
  obtain rfl:=wu h;obtain ⟨rfl,h1⟩:=wv hb;exact ydg b h1
 exact zk h88 λ a q b hd h hb=>by
  obtain rfl:=wu h;obtain ⟨rfl,h1⟩:=wv hb;exact z9s b.depth b (Nat.le_refl _) h1
theorem g87(n:Nat)(t:T):zn cx K5 n 171 [.d t.d] []=zc (zr t.d) λ b=>some (Out.ret (V.d (D.bool !zap b)),[]):=by
  cases t; kernel_rfl
def K6:CK R1:=z7 171 ql zr (λ t=>mkB (!zap t)) K5
theorem z7p:knows cx K6.S (zj cx):=zk zem λ a q b hd h hb=>by
 obtain rfl:=wu h;obtain ⟨rfl,h1⟩:=wv hb;refine zm zem (N:=0) ?_;rw [g87,zij h1];rfl
theorem g86(n:Nat)(l:List T)(S:CK R1)(g:Nat):zn cx S n 45 [.d (.sl 5 (T.ds l)),.func g []] []=LP cx S n 45 0 2 n [(0,V.d (D.sl 5 (T.ds l))),(1,V.func g []),(7,V.d (D.int .i64 (↑(T.ds l).length:Int))),(8,V.d (D.int .i64 (0:Int)))] [] (AK cx S n 45 0 2 (EK cx 45 0)):=by kernel_rfl
theorem yd9(n k:Nat)(l:List T)(i:Int)(f:D→Option T)(p:T→Bool)(S:CK R1):LP cx (z7 171 ql f (λ t=>mkB (p t)) S) n 45 0 2 (k+1) [(0,V.d (D.sl 5 (T.ds l))),(1,V.func 171 []),(7,V.d (D.int .i64 (l.length:Int))),(8,V.d (D.int .i64 i))] [] (AK cx (z7 171 ql f (λ t=>mkB (p t)) S) n 45 0 2 (EK cx 45 0))=bif decide (i<(↑l.length:Int)) then zb (decide (0≤i)&&decide (i<(↑(T.ds l).length:Int))) (za (T.ds l) i.toNat λ y=>za y.cells 0 λ c=>za y.cells 1 λ c_1=>za y.cells 2 λ c_2=>za y.cells 3 λ c_3=>za y.cells 4 λ c_4=>zc (f (D.agg [c,c_1,c_2,c_3,c_4])) λ b=>bif p b then some (Out.ret (V.d (D.int .i64 i)),[]) else LP cx (z7 171 ql f (λ t=>mkB (p t)) S) n 45 0 2 k [(0,V.d (D.sl 5 (T.ds l))),(1,V.func 171 []),(7,V.d (D.int .i64 (↑l.length:Int))),(8,V.d (D.int .i64 (IntKind.i64.wrap (i+(1:Int)))))] [] (AK cx (z7 171 ql f (λ t=>mkB (p t)) S) n 45 0 2 (EK cx 45 0))) else some (Out.ret (V.d (D.int .i64 (Int.negSucc 0))),[]):=by kernel_rfl
theorem yd8(n k:Nat)(l:List T)(i:Int)(f:D→Option T)(p:T→Bool)(S:CK R1):LP cx (z7 139 ql f (λ t=>mkB (p t)) S) n 45 0 2 (k+1) [(0,V.d (D.sl 5 (T.ds l))),(1,V.func 139 []),(7,V.d (D.int .i64 (l.length:Int))),(8,V.d (D.int .i64 i))] [] (AK cx (z7 139 ql f (λ t=>mkB (p t)) S) n 45 0 2 (EK cx 45 0))=bif decide (i<(↑l.length:Int)) then zb (decide (0≤i)&&decide (i<(↑(T.ds l).length:Int))) (za (T.ds l) i.toNat λ y=>za y.cells 0 λ c=>za y.cells 1 λ c_1=>za y.cells 2 λ c_2=>za y.cells 3 λ c_3=>za y.cells 4 λ c_4=>zc (f (D.agg [c,c_1,c_2,c_3,c_4])) λ b=>bif p b then some (Out.ret (V.d (D.int .i64 i)),[]) else LP cx (z7 139 ql f (λ t=>mkB (p t)) S) n 45 0 2 k [(0,V.d (D.sl 5 (T.ds l))),(1,V.func 139 []),(7,V.d (D.int .i64 (↑l.length:Int))),(8,V.d (D.int .i64 (IntKind.i64.wrap (i+(1:Int)))))] [] (AK cx (z7 139 ql f (λ t=>mkB (p t)) S) n 45 0 2 (EK cx 45 0))) else some (Out.ret (V.d (D.int .i64 (Int.negSucc 0))),[]):=by kernel_rfl
theorem yhm(n:Nat)(l:List D)(f:D→Option (List T))(p:T→Bool)(S:CK R1):zn cx (z7 45 (zir 171) f (λ t=>mkI (wi p t)) S) n 138 [.d (.sl 5 l),.func 171 []] []=zc (f (D.sl 5 l)) λ b=>some (Out.ret (V.d (D.bool (decide ((0:Int)≤wi p b)))),[]):=by kernel_rfl
theorem yhl(n:Nat)(l:List D)(f:D→Option (List T))(p:T→Bool)(S:CK R1):zn cx (z7 45 (zir 139) f (λ t=>mkI (wi p t)) S) n 138 [.d (.sl 5 l),.func 139 []] []=zc (f (D.sl 5 l)) λ b=>some (Out.ret (V.d (D.bool (decide ((0:Int)≤wi p b)))),[]):=by kernel_rfl
theorem yay{f:D→Option T}{p:T→Bool}{S:CK R1}(hK:knows cx (z7 171 ql f (λ t=>mkB (p t)) S).S (zj cx))(l:List T)(hl:yn l=true)(hf:∀ t∈l,f t.d=some t) :
  zj cx 45 [.d (.sl 5 (T.ds l)),.func 171 []] []=some (.ret (mkI (wi p l)),[]):=by
 refine zm hK (N:=l.length+1) ?_;rw [g86]
 have h:=zfa (λ k i=>LP cx (z7 171 ql f (λ t=>mkB (p t)) S) (l.length+1) 45 0 2 k [(0,V.d (D.sl 5 (T.ds l))),(1,V.func 171 []),(7,V.d (D.int .i64 (l.length:Int))),(8,V.d (D.int .i64 i))] [] (AK cx (z7 171 ql f (λ t=>mkB (p t)) S) (l.length+1) 45 0 2 (EK cx 45 0)))
  l p (λ j=>some (Out.ret (V.d (D.int .i64 j)),[])) (some (Out.ret (V.d (D.int .i64 (Int.negSucc 0))),[])) (yp hl)
  (λ k j x hj hx=>by
   rw [yd9,zu,yf hj,y8,yh,po,hx];simp only [pw,zb,zc,Bool.and_self,yk,xu,vk,vj,vi,vh,we,hf x (pq hx)]) (λ k=>by rw [yd9,yw,px]) l 0 (l.length+1) rfl (Nat.zero_le _) (by omega)
 rw [zu];refine h.trans ?_;unfold wi;cases xh p l 0 <;> rfl
theorem yax{f:D→Option T}{p:T→Bool}{S:CK R1}(hK:knows cx (z7 139 ql f (λ t=>mkB (p t)) S).S (zj cx))(l:List T)(hl:yn l=true)(hf:∀ t∈l,f t.d=some t) :
  zj cx 45 [.d (.sl 5 (T.ds l)),.func 139 []] []=some (.ret (mkI (wi p l)),[]):=by
 refine zm hK (N:=l.length+1) ?_;rw [g86]
 have h:=zfa (λ k i=>LP cx (z7 139 ql f (λ t=>mkB (p t)) S) (l.length+1) 45 0 2 k [(0,V.d (D.sl 5 (T.ds l))),(1,V.func 139 []),(7,V.d (D.int .i64 (l.length:Int))),(8,V.d (D.int .i64 i))] [] (AK cx (z7 139 ql f (λ t=>mkB (p t)) S) (l.length+1) 45 0 2 (EK cx 45 0)))
  l p (λ j=>some (Out.ret (V.d (D.int .i64 j)),[])) (some (Out.ret (V.d (D.int .i64 (Int.negSucc 0))),[])) (yp hl)
  (λ k j x hj hx=>by
   rw [yd8,zu,yf hj,y8,yh,po,hx];simp only [pw,zb,zc,Bool.and_self,yk,xu,vk,vj,vi,vh,we,hf x (pq hx)]) (λ k=>by rw [yd8,yw,px]) l 0 (l.length+1) rfl (Nat.zero_le _) (by omega)
 rw [zu];refine h.trans ?_;unfold wi;cases xh p l 0 <;> rfl
theorem ya3{f:D→Option T}(hf0:∀ x t,f x=some t→x=t.d){p:T→Bool}{S:CK R1}(hS:knows cx S.S (zj cx))(hK:knows cx (z7 171 ql f (λ t=>mkB (p t)) S).S (zj cx))(l:List T)(hl:yn l=true)(hf:∀ t∈l,f t.d=some t) :
  zj cx 138 [.d (.sl 5 (T.ds l)),.func 171 []] []=some (.ret (mkB (l.any p)),[]):=by
 have h86:knows cx (z7 45 (zir 171) (qy f) (λ t=>mkI (wi p t)) S).S (zj cx):=zk hS λ a q b hd h hb=>by
  obtain rfl:=zd2 h;obtain ⟨l,rfl,h1,h2⟩:=zfy hb;obtain ⟨rfl,h3⟩:=zg4 hf0 h1;exact yay hK b h2 h3
 refine zm h86 (N:=0) ?_;rw [yhm,zoy hf hl,←zhp];rfl
theorem ya2{f:D→Option T}(hf0:∀ x t,f x=some t→x=t.d){p:T→Bool}{S:CK R1}(hS:knows cx S.S (zj cx))(hK:knows cx (z7 139 ql f (λ t=>mkB (p t)) S).S (zj cx))(l:List T)(hl:yn l=true)(hf:∀ t∈l,f t.d=some t) :
  zj cx 138 [.d (.sl 5 (T.ds l)),.func 139 []] []=some (.ret (mkB (l.any p)),[]):=by
 have h86:knows cx (z7 45 (zir 139) (qy f) (λ t=>mkI (wi p t)) S).S (zj cx):=zk hS λ a q b hd h hb=>by
  obtain rfl:=zd2 h;obtain ⟨l,rfl,h1,h2⟩:=zfy hb;obtain ⟨rfl,h3⟩:=zg4 hf0 h1;exact yax hK b h2 h3
 refine zm h86 (N:=0) ?_;rw [yhl,zoy hf hl,←zhp];rfl
theorem g65(n m:Nat)(k:Int)(nm:List UInt8)(kids:List T)(nms:List (List UInt8))(pl:Int)(S:CK R1):zn cx (z7 138 (zir 171) (qy zr) (λ l=>mkB (l.any (λ t=>!zap t))) (z7 94 ql (zi m) (λ t=>mkB (zg t)) S)) n 140 [.d (.agg [.int .i64 k,.str nm,.sl 5 (T.ds kids),.sl 1 (nms.map .str),.int .i64 pl])] []=bif !decide (k=(11:Int)) then some (Out.ret (V.d (D.bool false)),[]) else bif decide ((↑(T.ds kids).length:Int)<(1:Int)) then some (Out.ret (V.d (D.bool false)),[]) else bif decide ((2:Int)<(↑(T.ds kids).length:Int)) then some (Out.ret (V.d (D.bool false)),[]) else bif decide ((0:Int)<(↑(List.map D.str nms).length:Int)) then some (Out.ret (V.d (D.bool false)),[]) else bif !decide (nm=[]) then some (Out.ret (V.d (D.bool false)),[]) else zb (decide ((0:Int)<(↑(T.ds kids).length:Int))) (za (T.ds kids) (0:Int).toNat λ y=>za y.cells 0 λ c=>za y.cells 1 λ c_1=>za y.cells 2 λ c_2=>za y.cells 3 λ c_3=>za y.cells 4 λ c_4=>match c with
 | D.int k' n=>bif decide (k'=IntKind.i64) then bif !decide (n=(12:Int)) then some (Out.ret (V.d (D.bool false)),[]) else match c_3 with
  | D.sl s l=>bif s.beq (cx.P.cellsOf 9)||l.isEmpty then bif decide ((0:Int)<(↑l.length:Int)) then some (Out.ret (V.d (D.bool false)),[]) else match c_1 with
   | D.str s=>bif !decide (s=[]) then some (Out.ret (V.d (D.bool false)),[]) else match c_2 with
    | D.sl s l=>bif s.beq (cx.P.cellsOf 26)||l.isEmpty then zc (qy zr (D.sl 5 l)) λ b=>bif b.any λ t=>!zap t then some (Out.ret (V.d (D.bool false)),[]) else bif decide ((↑(T.ds kids).length:Int)=(1:Int)) then some (Out.ret (V.d (D.bool true)),[]) else zb (decide ((1:Int)<(↑(T.ds kids).length:Int))) (za (T.ds kids) (1:Int).toNat λ y=>za y.cells 0 λ c=>za y.cells 1 λ c_5=>za y.cells 2 λ c_6=>za y.cells 3 λ c_7=>za y.cells 4 λ c_8=>zc (zi m (D.agg [c,c_5,c_6,c_7,c_8])) λ b=>some (Out.ret (V.d (D.bool (zg b))),[])) else none
    | x=>none
   | x=>none else none
  | x=>none else none
 | x=>none):=by kernel_rfl
theorem g64(n:Nat)(k:Int)(nm:List UInt8)(kids:List T)(nms:List (List UInt8))(pl:Int)(f:D→Option T)(S:CK R1):zn cx (z7 140 ql f (λ t=>mkB (ym t)) S) n 139 [.d (.agg [.int .i64 k,.str nm,.sl 5 (T.ds kids),.sl 1 (nms.map .str),.int .i64 pl])] []=zc (f (D.agg [D.int .i64 k,D.str nm,D.sl 5 (T.ds kids),D.sl 1 (List.map D.str nms),D.int .i64 pl])) λ b=>some (Out.ret (V.d (D.bool !ym b)),[]):=by kernel_rfl
theorem g37(n m:Nat)(k:Int)(nm:List UInt8)(kids:List T)(nms:List (List UInt8))(pl:Int):zn cx (z7 138 (zir 139) (qy (zi m)) (λ l=>mkB (l.any (λ t=>!ym t))) (z7 94 ql (zi m) (λ t=>mkB (zg t)) K5)) n 94 [.d (.agg [.int .i64 k,.str nm,.sl 5 (T.ds kids),.sl 1 (nms.map .str),.int .i64 pl])] []=bif decide (k=(1:Int)) then zc (zc (zr (D.agg [D.int .i64 k,D.str nm,D.sl 5 (T.ds kids),D.sl 1 (List.map D.str nms),D.int .i64 pl],(0:Int),(0:Int),true).fst) λ t=>some (t,(0:Int),(0:Int),true)) λ b=>bif yt b then zb (decide (nm.length≤big)) (some (Out.ret (V.d (D.bool (z6 nm))),[])) else some (Out.ret (V.d (D.bool false)),[]) else bif decide (k=(2:Int)) then bif decide (k=(2:Int)) then bif decide ((0:Int)<(↑(List.map D.str nms).length:Int)) then zc (zc (zr (D.agg [D.int .i64 k,D.str nm,D.sl 5 (T.ds kids),D.sl 1 (List.map D.str nms),D.int .i64 pl],(1:Int),(↑(List.map D.str nms).length:Int),false).fst) λ t=>some (t,(1:Int),(↑(List.map D.str nms).length:Int),false)) λ b=>bif yt b then zb (decide ((0:Int)<(↑(T.ds kids).length:Int))) (za (T.ds kids) (0:Int).toNat λ y=>za y.cells 0 λ c=>za y.cells 1 λ c_1=>za y.cells 2 λ c_2=>za y.cells 3 λ c_3=>za y.cells 4 λ c_4=>zc (zi m (D.agg [c,c_1,c_2,c_3,c_4])) λ b=>some (Out.ret (V.d (D.bool (zg b))),[])) else some (Out.ret (V.d (D.bool false)),[]) else some (Out.ret (V.d (D.bool false)),[]) else bif decide (k=(4:Int)) then bif decide (k=(4:Int)) then bif decide ((↑(List.map D.str nms).length:Int)<(2:Int)) then zc (zc (zr (D.agg [D.int .i64 k,D.str nm,D.sl 5 (T.ds kids),D.sl 1 (List.map D.str nms),D.int .i64 pl],(2:Int),(↑(List.map D.str nms).length:Int),false).fst) λ t=>some (t,(2:Int),(↑(List.map D.str nms).length:Int),false)) λ b=>bif yt b then zb (decide ((0:Int)<(↑(T.ds kids).length:Int))) (za (T.ds kids) (0:Int).toNat λ y=>za y.cells 0 λ c=>za y.cells 1 λ c_1=>za y.cells 2 λ c_2=>za y.cells 3 λ c_3=>za y.cells 4 λ c_4=>zc (zi m (D.agg [c,c_1,c_2,c_3,c_4])) λ b=>bif zg b then zb (decide ((1:Int)<(↑(T.ds kids).length:Int))) (za (T.ds kids) (1:Int).toNat λ y=>za y.cells 0 λ c=>za y.cells 1 λ c_5=>za y.cells 2 λ c_6=>za y.cells 3 λ c_7=>za y.cells 4 λ c_8=>zc (zi m (D.agg [c,c_5,c_6,c_7,c_8])) λ b=>some (Out.ret (V.d (D.bool (zg b))),[])) else some (Out.ret (V.d (D.bool false)),[])) else some (Out.ret (V.d (D.bool false)),[]) else some (Out.ret (V.d (D.bool false)),[]) else bif decide (k=(6:Int)) then bif decide (k=(6:Int)) then zc (zc (zr (D.agg [D.int .i64 k,D.str nm,D.sl 5 (T.ds kids),D.sl 1 (List.map D.str nms),D.int .i64 pl],(2:Int),(0:Int),false).fst) λ t=>some (t,(2:Int),(0:Int),false)) λ b=>bif yt b then zb (decide ((0:Int)<(↑(T.ds kids).length:Int))) (za (T.ds kids) (0:Int).toNat λ y=>za y.cells 0 λ c=>za y.cells 1 λ c_1=>za y.cells 2 λ c_2=>za y.cells 3 λ c_3=>za y.cells 4 λ c_4=>zc (zi m (D.agg [c,c_1,c_2,c_3,c_4])) λ b=>bif zg b then zb (decide ((1:Int)<(↑(T.ds kids).length:Int))) (za (T.ds kids) (1:Int).toNat λ y=>za y.cells 0 λ c=>za y.cells 1 λ c_5=>za y.cells 2 λ c_6=>za y.cells 3 λ c_7=>za y.cells 4 λ c_8=>zc (zi m (D.agg [c,c_5,c_6,c_7,c_8])) λ b=>some (Out.ret (V.d (D.bool (zg b))),[])) else some (Out.ret (V.d (D.bool false)),[])) else some (Out.ret (V.d (D.bool false)),[]) else bif decide (k=(7:Int)) then zc (zc (zr (D.agg [D.int .i64 k,D.str nm,D.sl 5 (T.ds kids),D.sl 1 (List.map D.str nms),D.int .i64 pl],(2:Int),(0:Int),false).fst) λ t=>some (t,(2:Int),(0:Int),false)) λ b=>bif yt b then zb (decide ((0:Int)<(↑(T.ds kids).length:Int))) (za (T.ds kids) (0:Int).toNat λ y=>za y.cells 0 λ c=>za y.cells 1 λ c_1=>za y.cells 2 λ c_2=>za y.cells 3 λ c_3=>za y.cells 4 λ c_4=>zc (zi m (D.agg [c,c_1,c_2,c_3,c_4])) λ b=>bif zg b then zb (decide ((1:Int)<(↑(T.ds kids).length:Int))) (za (T.ds kids) (1:Int).toNat λ y=>za y.cells 0 λ c=>za y.cells 1 λ c_5=>za y.cells 2 λ c_6=>za y.cells 3 λ c_7=>za y.cells 4 λ c_8=>zc (zr (D.agg [c,c_5,c_6,c_7,c_8])) λ b=>some (Out.ret (V.d (D.bool (zz b))),[])) else some (Out.ret (V.d (D.bool false)),[])) else some (Out.ret (V.d (D.bool false)),[]) else bif decide (k=(10:Int)) then bif decide ((↑(List.map D.str nms).length:Int)=(0:Int)) then bif decide (nm=[]) then zc (qy (zi m) (D.sl 5 (T.ds kids))) λ b=>some (Out.ret (V.d (D.bool !b.any λ t=>!ym t)),[]) else some (Out.ret (V.d (D.bool false)),[]) else some (Out.ret (V.d (D.bool false)),[]) else some (Out.ret (V.d (D.bool false)),[]) else bif decide (k=(8:Int)) then bif decide (k=(8:Int)) then zc (zc (zr (D.agg [D.int .i64 k,D.str nm,D.sl 5 (T.ds kids),D.sl 1 (List.map D.str nms),D.int .i64 pl],(2:Int),(0:Int),false).fst) λ t=>some (t,(2:Int),(0:Int),false)) λ b=>bif yt b then zb (decide ((0:Int)<(↑(T.ds kids).length:Int))) (za (T.ds kids) (0:Int).toNat λ y=>za y.cells 0 λ c=>za y.cells 1 λ c_1=>za y.cells 2 λ c_2=>za y.cells 3 λ c_3=>za y.cells 4 λ c_4=>zc (zi m (D.agg [c,c_1,c_2,c_3,c_4])) λ b=>bif zg b then zb (decide ((1:Int)<(↑(T.ds kids).length:Int))) (za (T.ds kids) (1:Int).toNat λ y=>za y.cells 0 λ c=>za y.cells 1 λ c_5=>za y.cells 2 λ c_6=>za y.cells 3 λ c_7=>za y.cells 4 λ c_8=>zc (zi m (D.agg [c,c_5,c_6,c_7,c_8])) λ b=>some (Out.ret (V.d (D.bool (zg b))),[])) else some (Out.ret (V.d (D.bool false)),[])) else some (Out.ret (V.d (D.bool false)),[]) else bif decide (k=(7:Int)) then zc (zc (zr (D.agg [D.int .i64 k,D.str nm,D.sl 5 (T.ds kids),D.sl 1 (List.map D.str nms),D.int .i64 pl],(2:Int),(0:Int),false).fst) λ t=>some (t,(2:Int),(0:Int),false)) λ b=>bif yt b then zb (decide ((0:Int)<(↑(T.ds kids).length:Int))) (za (T.ds kids) (0:Int).toNat λ y=>za y.cells 0 λ c=>za y.cells 1 λ c_1=>za y.cells 2 λ c_2=>za y.cells 3 λ c_3=>za y.cells 4 λ c_4=>zc (zi m (D.agg [c,c_1,c_2,c_3,c_4])) λ b=>bif zg b then zb (decide ((1:Int)<(↑(T.ds kids).length:Int))) (za (T.ds kids) (1:Int).toNat λ y=>za y.cells 0 λ c=>za y.cells 1 λ c_5=>za y.cells 2 λ c_6=>za y.cells 3 λ c_7=>za y.cells 4 λ c_8=>zc (zr (D.agg [c,c_5,c_6,c_7,c_8])) λ b=>some (Out.ret (V.d (D.bool (zz b))),[])) else some (Out.ret (V.d (D.bool false)),[])) else some (Out.ret (V.d (D.bool false)),[]) else bif decide (k=(10:Int)) then bif decide ((↑(List.map D.str nms).length:Int)=(0:Int)) then bif decide (nm=[]) then zc (qy (zi m) (D.sl 5 (T.ds kids))) λ b=>some (Out.ret (V.d (D.bool !b.any λ t=>!ym t)),[]) else some (Out.ret (V.d (D.bool false)),[]) else some (Out.ret (V.d (D.bool false)),[]) else some (Out.ret (V.d (D.bool false)),[]) else bif decide (k=(9:Int)) then zc (zc (zr (D.agg [D.int .i64 k,D.str nm,D.sl 5 (T.ds kids),D.sl 1 (List.map D.str nms),D.int .i64 pl],(2:Int),(0:Int),false).fst) λ t=>some (t,(2:Int),(0:Int),false)) λ b=>bif yt b then zb (decide ((0:Int)<(↑(T.ds kids).length:Int))) (za (T.ds kids) (0:Int).toNat λ y=>za y.cells 0 λ c=>za y.cells 1 λ c_1=>za y.cells 2 λ c_2=>za y.cells 3 λ c_3=>za y.cells 4 λ c_4=>zc (zi m (D.agg [c,c_1,c_2,c_3,c_4])) λ b=>bif zg b then zb (decide ((1:Int)<(↑(T.ds kids).length:Int))) (za (T.ds kids) (1:Int).toNat λ y=>za y.cells 0 λ c=>za y.cells 1 λ c_5=>za y.cells 2 λ c_6=>za y.cells 3 λ c_7=>za y.cells 4 λ c_8=>zc (zi m (D.agg [c,c_5,c_6,c_7,c_8])) λ b=>some (Out.ret (V.d (D.bool (zg b))),[])) else some (Out.ret (V.d (D.bool false)),[])) else some (Out.ret (V.d (D.bool false)),[]) else bif decide (k=(7:Int)) then zc (zc (zr (D.agg [D.int .i64 k,D.str nm,D.sl 5 (T.ds kids),D.sl 1 (List.map D.str nms),D.int .i64 pl],(2:Int),(0:Int),false).fst) λ t=>some (t,(2:Int),(0:Int),false)) λ b=>bif yt b then zb (decide ((0:Int)<(↑(T.ds kids).length:Int))) (za (T.ds kids) (0:Int).toNat λ y=>za y.cells 0 λ c=>za y.cells 1 λ c_1=>za y.cells 2 λ c_2=>za y.cells 3 λ c_3=>za y.cells 4 λ c_4=>zc (zi m (D.agg [c,c_1,c_2,c_3,c_4])) λ b=>bif zg b then zb (decide ((1:Int)<(↑(T.ds kids).length:Int))) (za (T.ds kids) (1:Int).toNat λ y=>za y.cells 0 λ c=>za y.cells 1 λ c_5=>za y.cells 2 λ c_6=>za y.cells 3 λ c_7=>za y.cells 4 λ c_8=>zc (zr (D.agg [c,c_5,c_6,c_7,c_8])) λ b=>some (Out.ret (V.d (D.bool (zz b))),[])) else some (Out.ret (V.d (D.bool false)),[])) else some (Out.ret (V.d (D.bool false)),[]) else bif decide (k=(10:Int)) then bif decide ((↑(List.map D.str nms).length:Int)=(0:Int)) then bif decide (nm=[]) then zc (qy (zi m) (D.sl 5 (T.ds kids))) λ b=>some (Out.ret (V.d (D.bool !b.any λ t=>!ym t)),[]) else some (Out.ret (V.d (D.bool false)),[]) else some (Out.ret (V.d (D.bool false)),[]) else some (Out.ret (V.d (D.bool false)),[]) else bif decide (k=(5:Int)) then bif decide ((↑(List.map D.str nms).length:Int)<(2:Int)) then zc (zc (zr (D.agg [D.int .i64 k,D.str nm,D.sl 5 (T.ds kids),D.sl 1 (List.map D.str nms),D.int .i64 pl],(2:Int),(↑(List.map D.str nms).length:Int),false).fst) λ t=>some (t,(2:Int),(↑(List.map D.str nms).length:Int),false)) λ b=>bif yt b then zb (decide ((0:Int)<(↑(T.ds kids).length:Int))) (za (T.ds kids) (0:Int).toNat λ y=>za y.cells 0 λ c=>za y.cells 1 λ c_1=>za y.cells 2 λ c_2=>za y.cells 3 λ c_3=>za y.cells 4 λ c_4=>zc (zi m (D.agg [c,c_1,c_2,c_3,c_4])) λ b=>bif zg b then zb (decide ((1:Int)<(↑(T.ds kids).length:Int))) (za (T.ds kids) (1:Int).toNat λ y=>za y.cells 0 λ c=>za y.cells 1 λ c_5=>za y.cells 2 λ c_6=>za y.cells 3 λ c_7=>za y.cells 4 λ c_8=>zc (zi m (D.agg [c,c_5,c_6,c_7,c_8])) λ b=>some (Out.ret (V.d (D.bool (zg b))),[])) else some (Out.ret (V.d (D.bool false)),[])) else some (Out.ret (V.d (D.bool false)),[]) else some (Out.ret (V.d (D.bool false)),[]) else bif decide (k=(6:Int)) then bif decide (k=(6:Int)) then zc (zc (zr (D.agg [D.int .i64 k,D.str nm,D.sl 5 (T.ds kids),D.sl 1 (List.map D.str nms),D.int .i64 pl],(2:Int),(0:Int),false).fst) λ t=>some (t,(2:Int),(0:Int),false)) λ b=>bif yt b then zb (decide ((0:Int)<(↑(T.ds kids).length:Int))) (za (T.ds kids) (0:Int).toNat λ y=>za y.cells 0 λ c=>za y.cells 1 λ c_1=>za y.cells 2 λ c_2=>za y.cells 3 λ c_3=>za y.cells 4 λ c_4=>zc (zi m (D.agg [c,c_1,c_2,c_3,c_4])) λ b=>bif zg b then zb (decide ((1:Int)<(↑(T.ds kids).length:Int))) (za (T.ds kids) (1:Int).toNat λ y=>za y.cells 0 λ c=>za y.cells 1 λ c_5=>za y.cells 2 λ c_6=>za y.cells 3 λ c_7=>za y.cells 4 λ c_8=>zc (zi m (D.agg [c,c_5,c_6,c_7,c_8])) λ b=>some (Out.ret (V.d (D.bool (zg b))),[])) else some (Out.ret (V.d (D.bool false)),[])) else some (Out.ret (V.d (D.bool false)),[]) else bif decide (k=(7:Int)) then zc (zc (zr (D.agg [D.int .i64 k,D.str nm,D.sl 5 (T.ds kids),D.sl 1 (List.map D.str nms),D.int .i64 pl],(2:Int),(0:Int),false).fst) λ t=>some (t,(2:Int),(0:Int),false)) λ b=>bif yt b then zb (decide ((0:Int)<(↑(T.ds kids).length:Int))) (za (T.ds kids) (0:Int).toNat λ y=>za y.cells 0 λ c=>za y.cells 1 λ c_1=>za y.cells 2 λ c_2=>za y.cells 3 λ c_3=>za y.cells 4 λ c_4=>zc (zi m (D.agg [c,c_1,c_2,c_3,c_4])) λ b=>bif zg b then zb (decide ((1:Int)<(↑(T.ds kids).length:Int))) (za (T.ds kids) (1:Int).toNat λ y=>za y.cells 0 λ c=>za y.cells 1 λ c_5=>za y.cells 2 λ c_6=>za y.cells 3 λ c_7=>za y.cells 4 λ c_8=>zc (zr (D.agg [c,c_5,c_6,c_7,c_8])) λ b=>some (Out.ret (V.d (D.bool (zz b))),[])) else some (Out.ret (V.d (D.bool false)),[])) else some (Out.ret (V.d (D.bool false)),[]) else bif decide (k=(10:Int)) then bif decide ((↑(List.map D.str nms).length:Int)=(0:Int)) then bif decide (nm=[]) then zc (qy (zi m) (D.sl 5 (T.ds kids))) λ b=>some (Out.ret (V.d (D.bool !b.any λ t=>!ym t)),[]) else some (Out.ret (V.d (D.bool false)),[]) else some (Out.ret (V.d (D.bool false)),[]) else some (Out.ret (V.d (D.bool false)),[]) else bif decide (k=(8:Int)) then bif decide (k=(8:Int)) then zc (zc (zr (D.agg [D.int .i64 k,D.str nm,D.sl 5 (T.ds kids),D.sl 1 (List.map D.str nms),D.int .i64 pl],(2:Int),(0:Int),false).fst) λ t=>some (t,(2:Int),(0:Int),false)) λ b=>bif yt b then zb (decide ((0:Int)<(↑(T.ds kids).length:Int))) (za (T.ds kids) (0:Int).toNat λ y=>za y.cells 0 λ c=>za y.cells 1 λ c_1=>za y.cells 2 λ c_2=>za y.cells 3 λ c_3=>za y.cells 4 λ c_4=>zc (zi m (D.agg [c,c_1,c_2,c_3,c_4])) λ b=>bif zg b then zb (decide ((1:Int)<(↑(T.ds kids).length:Int))) (za (T.ds kids) (1:Int).toNat λ y=>za y.cells 0 λ c=>za y.cells 1 λ c_5=>za y.cells 2 λ c_6=>za y.cells 3 λ c_7=>za y.cells 4 λ c_8=>zc (zi m (D.agg [c,c_5,c_6,c_7,c_8])) λ b=>some (Out.ret (V.d (D.bool (zg b))),[])) else some (Out.ret (V.d (D.bool false)),[])) else some (Out.ret (V.d (D.bool false)),[]) else bif decide (k=(7:Int)) then zc (zc (zr (D.agg [D.int .i64 k,D.str nm,D.sl 5 (T.ds kids),D.sl 1 (List.map D.str nms),D.int .i64 pl],(2:Int),(0:Int),false).fst) λ t=>some (t,(2:Int),(0:Int),false)) λ b=>bif yt b then zb (decide ((0:Int)<(↑(T.ds kids).length:Int))) (za (T.ds kids) (0:Int).toNat λ y=>za y.cells 0 λ c=>za y.cells 1 λ c_1=>za y.cells 2 λ c_2=>za y.cells 3 λ c_3=>za y.cells 4 λ c_4=>zc (zi m (D.agg [c,c_1,c_2,c_3,c_4])) λ b=>bif zg b then zb (decide ((1:Int)<(↑(T.ds kids).length:Int))) (za (T.ds kids) (1:Int).toNat λ y=>za y.cells 0 λ c=>za y.cells 1 λ c_5=>za y.cells 2 λ c_6=>za y.cells 3 λ c_7=>za y.cells 4 λ c_8=>zc (zr (D.agg [c,c_5,c_6,c_7,c_8])) λ b=>some (Out.ret (V.d (D.bool (zz b))),[])) else some (Out.ret (V.d (D.bool false)),[])) else some (Out.ret (V.d (D.bool false)),[]) else bif decide (k=(10:Int)) then bif decide ((↑(List.map D.str nms).length:Int)=(0:Int)) then bif decide (nm=[]) then zc (qy (zi m) (D.sl 5 (T.ds kids))) λ b=>some (Out.ret (V.d (D.bool !b.any λ t=>!ym t)),[]) else some (Out.ret (V.d (D.bool false)),[]) else some (Out.ret (V.d (D.bool false)),[]) else some (Out.ret (V.d (D.bool false)),[]) else bif decide (k=(9:Int)) then zc (zc (zr (D.agg [D.int .i64 k,D.str nm,D.sl 5 (T.ds kids),D.sl 1 (List.map D.str nms),D.int .i64 pl],(2:Int),(0:Int),false).fst) λ t=>some (t,(2:Int),(0:Int),false)) λ b=>bif yt b then zb (decide ((0:Int)<(↑(T.ds kids).length:Int))) (za (T.ds kids) (0:Int).toNat λ y=>za y.cells 0 λ c=>za y.cells 1 λ c_1=>za y.cells 2 λ c_2=>za y.cells 3 λ c_3=>za y.cells 4 λ c_4=>zc (zi m (D.agg [c,c_1,c_2,c_3,c_4])) λ b=>bif zg b then zb (decide ((1:Int)<(↑(T.ds kids).length:Int))) (za (T.ds kids) (1:Int).toNat λ y=>za y.cells 0 λ c=>za y.cells 1 λ c_5=>za y.cells 2 λ c_6=>za y.cells 3 λ c_7=>za y.cells 4 λ c_8=>zc (zi m (D.agg [c,c_5,c_6,c_7,c_8])) λ b=>some (Out.ret (V.d (D.bool (zg b))),[])) else some (Out.ret (V.d (D.bool false)),[])) else some (Out.ret (V.d (D.bool false)),[]) else bif decide (k=(7:Int)) then zc (zc (zr (D.agg [D.int .i64 k,D.str nm,D.sl 5 (T.ds kids),D.sl 1 (List.map D.str nms),D.int .i64 pl],(2:Int),(0:Int),false).fst) λ t=>some (t,(2:Int),(0:Int),false)) λ b=>bif yt b then zb (decide ((0:Int)<(↑(T.ds kids).length:Int))) (za (T.ds kids) (0:Int).toNat λ y=>za y.cells 0 λ c=>za y.cells 1 λ c_1=>za y.cells 2 λ c_2=>za y.cells 3 λ c_3=>za y.cells 4 λ c_4=>zc (zi m (D.agg [c,c_1,c_2,c_3,c_4])) λ b=>bif zg b then zb (decide ((1:Int)<(↑(T.ds kids).length:Int))) (za (T.ds kids) (1:Int).toNat λ y=>za y.cells 0 λ c=>za y.cells 1 λ c_5=>za y.cells 2 λ c_6=>za y.cells 3 λ c_7=>za y.cells 4 λ c_8=>zc (zr (D.agg [c,c_5,c_6,c_7,c_8])) λ b=>some (Out.ret (V.d (D.bool (zz b))),[])) else some (Out.ret (V.d (D.bool false)),[])) else some (Out.ret (V.d (D.bool false)),[]) else bif decide (k=(10:Int)) then bif decide ((↑(List.map D.str nms).length:Int)=(0:Int)) then bif decide (nm=[]) then zc (qy (zi m) (D.sl 5 (T.ds kids))) λ b=>some (Out.ret (V.d (D.bool !b.any λ t=>!ym t)),[]) else some (Out.ret (V.d (D.bool false)),[]) else some (Out.ret (V.d (D.bool false)),[]) else some (Out.ret (V.d (D.bool false)),[]) else bif decide (k=(3:Int)) then bif decide ((0:Int)<(↑(List.map D.str nms).length:Int)) then zc (zc (zr (D.agg [D.int .i64 k,D.str nm,D.sl 5 (T.ds kids),D.sl 1 (List.map D.str nms),D.int .i64 pl],(1:Int),(↑(List.map D.str nms).length:Int),false).fst) λ t=>some (t,(1:Int),(↑(List.map D.str nms).length:Int),false)) λ b=>bif yt b then zb (decide ((0:Int)<(↑(T.ds kids).length:Int))) (za (T.ds kids) (0:Int).toNat λ y=>za y.cells 0 λ c=>za y.cells 1 λ c_1=>za y.cells 2 λ c_2=>za y.cells 3 λ c_3=>za y.cells 4 λ c_4=>zc (zi m (D.agg [c,c_1,c_2,c_3,c_4])) λ b=>some (Out.ret (V.d (D.bool (zg b))),[])) else some (Out.ret (V.d (D.bool false)),[]) else some (Out.ret (V.d (D.bool false)),[]) else bif decide (k=(4:Int)) then bif decide (k=(4:Int)) then bif decide ((↑(List.map D.str nms).length:Int)<(2:Int)) then zc (zc (zr (D.agg [D.int .i64 k,D.str nm,D.sl 5 (T.ds kids),D.sl 1 (List.map D.str nms),D.int .i64 pl],(2:Int),(↑(List.map D.str nms).length:Int),false).fst) λ t=>some (t,(2:Int),(↑(List.map D.str nms).length:Int),false)) λ b=>bif yt b then zb (decide ((0:Int)<(↑(T.ds kids).length:Int))) (za (T.ds kids) (0:Int).toNat λ y=>za y.cells 0 λ c=>za y.cells 1 λ c_1=>za y.cells 2 λ c_2=>za y.cells 3 λ c_3=>za y.cells 4 λ c_4=>zc (zi m (D.agg [c,c_1,c_2,c_3,c_4])) λ b=>bif zg b then zb (decide ((1:Int)<(↑(T.ds kids).length:Int))) (za (T.ds kids) (1:Int).toNat λ y=>za y.cells 0 λ c=>za y.cells 1 λ c_5=>za y.cells 2 λ c_6=>za y.cells 3 λ c_7=>za y.cells 4 λ c_8=>zc (zi m (D.agg [c,c_5,c_6,c_7,c_8])) λ b=>some (Out.ret (V.d (D.bool (zg b))),[])) else some (Out.ret (V.d (D.bool false)),[])) else some (Out.ret (V.d (D.bool false)),[]) else some (Out.ret (V.d (D.bool false)),[]) else bif decide (k=(6:Int)) then bif decide (k=(6:Int)) then zc (zc (zr (D.agg [D.int .i64 k,D.str nm,D.sl 5 (T.ds kids),D.sl 1 (List.map D.str nms),D.int .i64 pl],(2:Int),(0:Int),false).fst) λ t=>some (t,(2:Int),(0:Int),false)) λ b=>bif yt b then zb (decide ((0:Int)<(↑(T.ds kids).length:Int))) (za (T.ds kids) (0:Int).toNat λ y=>za y.cells 0 λ c=>za y.cells 1 λ c_1=>za y.cells 2 λ c_2=>za y.cells 3 λ c_3=>za y.cells 4 λ c_4=>zc (zi m (D.agg [c,c_1,c_2,c_3,c_4])) λ b=>bif zg b then zb (decide ((1:Int)<(↑(T.ds kids).length:Int))) (za (T.ds kids) (1:Int).toNat λ y=>za y.cells 0 λ c=>za y.cells 1 λ c_5=>za y.cells 2 λ c_6=>za y.cells 3 λ c_7=>za y.cells 4 λ c_8=>zc (zi m (D.agg [c,c_5,c_6,c_7,c_8])) λ b=>some (Out.ret (V.d (D.bool (zg b))),[])) else some (Out.ret (V.d (D.bool false)),[])) else some (Out.ret (V.d (D.bool false)),[]) else bif decide (k=(7:Int)) then zc (zc (zr (D.agg [D.int .i64 k,D.str nm,D.sl 5 (T.ds kids),D.sl 1 (List.map D.str nms),D.int .i64 pl],(2:Int),(0:Int),false).fst) λ t=>some (t,(2:Int),(0:Int),false)) λ b=>bif yt b then zb (decide ((0:Int)<(↑(T.ds kids).length:Int))) (za (T.ds kids) (0:Int).toNat λ y=>za y.cells 0 λ c=>za y.cells 1 λ c_1=>za y.cells 2 λ c_2=>za y.cells 3 λ c_3=>za y.cells 4 λ c_4=>zc (zi m (D.agg [c,c_1,c_2,c_3,c_4])) λ b=>bif zg b then zb (decide ((1:Int)<(↑(T.ds kids).length:Int))) (za (T.ds kids) (1:Int).toNat λ y=>za y.cells 0 λ c=>za y.cells 1 λ c_5=>za y.cells 2 λ c_6=>za y.cells 3 λ c_7=>za y.cells 4 λ c_8=>zc (zr (D.agg [c,c_5,c_6,c_7,c_8])) λ b=>some (Out.ret (V.d (D.bool (zz b))),[])) else some (Out.ret (V.d (D.bool false)),[])) else some (Out.ret (V.d (D.bool false)),[]) else bif decide (k=(10:Int)) then bif decide ((↑(List.map D.str nms).length:Int)=(0:Int)) then bif decide (nm=[]) then zc (qy (zi m) (D.sl 5 (T.ds kids))) λ b=>some (Out.ret (V.d (D.bool !b.any λ t=>!ym t)),[]) else some (Out.ret (V.d (D.bool false)),[]) else some (Out.ret (V.d (D.bool false)),[]) else some (Out.ret (V.d (D.bool false)),[]) else bif decide (k=(8:Int)) then bif decide (k=(8:Int)) then zc (zc (zr (D.agg [D.int .i64 k,D.str nm,D.sl 5 (T.ds kids),D.sl 1 (List.map D.str nms),D.int .i64 pl],(2:Int),(0:Int),false).fst) λ t=>some (t,(2:Int),(0:Int),false)) λ b=>bif yt b then zb (decide ((0:Int)<(↑(T.ds kids).length:Int))) (za (T.ds kids) (0:Int).toNat λ y=>za y.cells 0 λ c=>za y.cells 1 λ c_1=>za y.cells 2 λ c_2=>za y.cells 3 λ c_3=>za y.cells 4 λ c_4=>zc (zi m (D.agg [c,c_1,c_2,c_3,c_4])) λ b=>bif zg b then zb (decide ((1:Int)<(↑(T.ds kids).length:Int))) (za (T.ds kids) (1:Int).toNat λ y=>za y.cells 0 λ c=>za y.cells 1 λ c_5=>za y.cells 2 λ c_6=>za y.cells 3 λ c_7=>za y.cells 4 λ c_8=>zc (zi m (D.agg [c,c_5,c_6,c_7,c_8])) λ b=>some (Out.ret (V.d (D.bool (zg b))),[])) else some (Out.ret (V.d (D.bool false)),[])) else some (Out.ret (V.d (D.bool false)),[]) else bif decide (k=(7:Int)) then zc (zc (zr (D.agg [D.int .i64 k,D.str nm,D.sl 5 (T.ds kids),D.sl 1 (List.map D.str nms),D.int .i64 pl],(2:Int),(0:Int),false).fst) λ t=>some (t,(2:Int),(0:Int),false)) λ b=>bif yt b then zb (decide ((0:Int)<(↑(T.ds kids).length:Int))) (za (T.ds kids) (0:Int).toNat λ y=>za y.cells 0 λ c=>za y.cells 1 λ c_1=>za y.cells 2 λ c_2=>za y.cells 3 λ c_3=>za y.cells 4 λ c_4=>zc (zi m (D.agg [c,c_1,c_2,c_3,c_4])) λ b=>bif zg b then zb (decide ((1:Int)<(↑(T.ds kids).length:Int))) (za (T.ds kids) (1:Int).toNat λ y=>za y.cells 0 λ c=>za y.cells 1 λ c_5=>za y.cells 2 λ c_6=>za y.cells 3 λ c_7=>za y.cells 4 λ c_8=>zc (zr (D.agg [c,c_5,c_6,c_7,c_8])) λ b=>some (Out.ret (V.d (D.bool (zz b))),[])) else some (Out.ret (V.d (D.bool false)),[])) else some (Out.ret (V.d (D.bool false)),[]) else bif decide (k=(10:Int)) then bif decide ((↑(List.map D.str nms).length:Int)=(0:Int)) then bif decide (nm=[]) then zc (qy (zi m) (D.sl 5 (T.ds kids))) λ b=>some (Out.ret (V.d (D.bool !b.any λ t=>!ym t)),[]) else some (Out.ret (V.d (D.bool false)),[]) else some (Out.ret (V.d (D.bool false)),[]) else some (Out.ret (V.d (D.bool false)),[]) else bif decide (k=(9:Int)) then zc (zc (zr (D.agg [D.int .i64 k,D.str nm,D.sl 5 (T.ds kids),D.sl 1 (List.map D.str nms),D.int .i64 pl],(2:Int),(0:Int),false).fst) λ t=>some (t,(2:Int),(0:Int),false)) λ b=>bif yt b then zb (decide ((0:Int)<(↑(T.ds kids).length:Int))) (za (T.ds kids) (0:Int).toNat λ y=>za y.cells 0 λ c=>za y.cells 1 λ c_1=>za y.cells 2 λ c_2=>za y.cells 3 λ c_3=>za y.cells 4 λ c_4=>zc (zi m (D.agg [c,c_1,c_2,c_3,c_4])) λ b=>bif zg b then zb (decide ((1:Int)<(↑(T.ds kids).length:Int))) (za (T.ds kids) (1:Int).toNat λ y=>za y.cells 0 λ c=>za y.cells 1 λ c_5=>za y.cells 2 λ c_6=>za y.cells 3 λ c_7=>za y.cells 4 λ c_8=>zc (zi m (D.agg [c,c_5,c_6,c_7,c_8])) λ b=>some (Out.ret (V.d (D.bool (zg b))),[])) else some (Out.ret (V.d (D.bool false)),[])) else some (Out.ret (V.d (D.bool false)),[]) else bif decide (k=(7:Int)) then zc (zc (zr (D.agg [D.int .i64 k,D.str nm,D.sl 5 (T.ds kids),D.sl 1 (List.map D.str nms),D.int .i64 pl],(2:Int),(0:Int),false).fst) λ t=>some (t,(2:Int),(0:Int),false)) λ b=>bif yt b then zb (decide ((0:Int)<(↑(T.ds kids).length:Int))) (za (T.ds kids) (0:Int).toNat λ y=>za y.cells 0 λ c=>za y.cells 1 λ c_1=>za y.cells 2 λ c_2=>za y.cells 3 λ c_3=>za y.cells 4 λ c_4=>zc (zi m (D.agg [c,c_1,c_2,c_3,c_4])) λ b=>bif zg b then zb (decide ((1:Int)<(↑(T.ds kids).length:Int))) (za (T.ds kids) (1:Int).toNat λ y=>za y.cells 0 λ c=>za y.cells 1 λ c_5=>za y.cells 2 λ c_6=>za y.cells 3 λ c_7=>za y.cells 4 λ c_8=>zc (zr (D.agg [c,c_5,c_6,c_7,c_8])) λ b=>some (Out.ret (V.d (D.bool (zz b))),[])) else some (Out.ret (V.d (D.bool false)),[])) else some (Out.ret (V.d (D.bool false)),[]) else bif decide (k=(10:Int)) then bif decide ((↑(List.map D.str nms).length:Int)=(0:Int)) then bif decide (nm=[]) then zc (qy (zi m) (D.sl 5 (T.ds kids))) λ b=>some (Out.ret (V.d (D.bool !b.any λ t=>!ym t)),[]) else some (Out.ret (V.d (D.bool false)),[]) else some (Out.ret (V.d (D.bool false)),[]) else some (Out.ret (V.d (D.bool false)),[]) else bif decide (k=(5:Int)) then bif decide ((↑(List.map D.str nms).length:Int)<(2:Int)) then zc (zc (zr (D.agg [D.int .i64 k,D.str nm,D.sl 5 (T.ds kids),D.sl 1 (List.map D.str nms),D.int .i64 pl],(2:Int),(↑(List.map D.str nms).length:Int),false).fst) λ t=>some (t,(2:Int),(↑(List.map D.str nms).length:Int),false)) λ b=>bif yt b then zb (decide ((0:Int)<(↑(T.ds kids).length:Int))) (za (T.ds kids) (0:Int).toNat λ y=>za y.cells 0 λ c=>za y.cells 1 λ c_1=>za y.cells 2 λ c_2=>za y.cells 3 λ c_3=>za y.cells 4 λ c_4=>zc (zi m (D.agg [c,c_1,c_2,c_3,c_4])) λ b=>bif zg b then zb (decide ((1:Int)<(↑(T.ds kids).length:Int))) (za (T.ds kids) (1:Int).toNat λ y=>za y.cells 0 λ c=>za y.cells 1 λ c_5=>za y.cells 2 λ c_6=>za y.cells 3 λ c_7=>za y.cells 4 λ c_8=>zc (zi m (D.agg [c,c_5,c_6,c_7,c_8])) λ b=>some (Out.ret (V.d (D.bool (zg b))),[])) else some (Out.ret (V.d (D.bool false)),[])) else some (Out.ret (V.d (D.bool false)),[]) else some (Out.ret (V.d (D.bool false)),[]) else bif decide (k=(6:Int)) then bif decide (k=(6:Int)) then zc (zc (zr (D.agg [D.int .i64 k,D.str nm,D.sl 5 (T.ds kids),D.sl 1 (List.map D.str nms),D.int .i64 pl],(2:Int),(0:Int),false).fst) λ t=>some (t,(2:Int),(0:Int),false)) λ b=>bif yt b then zb (decide ((0:Int)<(↑(T.ds kids).length:Int))) (za (T.ds kids) (0:Int).toNat λ y=>za y.cells 0 λ c=>za y.cells 1 λ c_1=>za y.cells 2 λ c_2=>za y.cells 3 λ c_3=>za y.cells 4 λ c_4=>zc (zi m (D.agg [c,c_1,c_2,c_3,c_4])) λ b=>bif zg b then zb (decide ((1:Int)<(↑(T.ds kids).length:Int))) (za (T.ds kids) (1:Int).toNat λ y=>za y.cells 0 λ c=>za y.cells 1 λ c_5=>za y.cells 2 λ c_6=>za y.cells 3 λ c_7=>za y.cells 4 λ c_8=>zc (zi m (D.agg [c,c_5,c_6,c_7,c_8])) λ b=>some (Out.ret (V.d (D.bool (zg b))),[])) else some (Out.ret (V.d (D.bool false)),[])) else some (Out.ret (V.d (D.bool false)),[]) else bif decide (k=(7:Int)) then zc (zc (zr (D.agg [D.int .i64 k,D.str nm,D.sl 5 (T.ds kids),D.sl 1 (List.map D.str nms),D.int .i64 pl],(2:Int),(0:Int),false).fst) λ t=>some (t,(2:Int),(0:Int),false)) λ b=>bif yt b then zb (decide ((0:Int)<(↑(T.ds kids).length:Int))) (za (T.ds kids) (0:Int).toNat λ y=>za y.cells 0 λ c=>za y.cells 1 λ c_1=>za y.cells 2 λ c_2=>za y.cells 3 λ c_3=>za y.cells 4 λ c_4=>zc (zi m (D.agg [c,c_1,c_2,c_3,c_4])) λ b=>bif zg b then zb (decide ((1:Int)<(↑(T.ds kids).length:Int))) (za (T.ds kids) (1:Int).toNat λ y=>za y.cells 0 λ c=>za y.cells 1 λ c_5=>za y.cells 2 λ c_6=>za y.cells 3 λ c_7=>za y.cells 4 λ c_8=>zc (zr (D.agg [c,c_5,c_6,c_7,c_8])) λ b=>some (Out.ret (V.d (D.bool (zz b))),[])) else some (Out.ret (V.d (D.bool false)),[])) else some (Out.ret (V.d (D.bool false)),[]) else bif decide (k=(10:Int)) then bif decide ((↑(List.map D.str nms).length:Int)=(0:Int)) then bif decide (nm=[]) then zc (qy (zi m) (D.sl 5 (T.ds kids))) λ b=>some (Out.ret (V.d (D.bool !b.any λ t=>!ym t)),[]) else some (Out.ret (V.d (D.bool false)),[]) else some (Out.ret (V.d (D.bool false)),[]) else some (Out.ret (V.d (D.bool false)),[]) else bif decide (k=(8:Int)) then bif decide (k=(8:Int)) then zc (zc (zr (D.agg [D.int .i64 k,D.str nm,D.sl 5 (T.ds kids),D.sl 1 (List.map D.str nms),D.int .i64 pl],(2:Int),(0:Int),false).fst) λ t=>some (t,(2:Int),(0:Int),false)) λ b=>bif yt b then zb (decide ((0:Int)<(↑(T.ds kids).length:Int))) (za (T.ds kids) (0:Int).toNat λ y=>za y.cells 0 λ c=>za y.cells 1 λ c_1=>za y.cells 2 λ c_2=>za y.cells 3 λ c_3=>za y.cells 4 λ c_4=>zc (zi m (D.agg [c,c_1,c_2,c_3,c_4])) λ b=>bif zg b then zb (decide ((1:Int)<(↑(T.ds kids).length:Int))) (za (T.ds kids) (1:Int).toNat λ y=>za y.cells 0 λ c=>za y.cells 1 λ c_5=>za y.cells 2 λ c_6=>za y.cells 3 λ c_7=>za y.cells 4 λ c_8=>zc (zi m (D.agg [c,c_5,c_6,c_7,c_8])) λ b=>some (Out.ret (V.d (D.bool (zg b))),[])) else some (Out.ret (V.d (D.bool false)),[])) else some (Out.ret (V.d (D.bool false)),[]) else bif decide (k=(7:Int)) then zc (zc (zr (D.agg [D.int .i64 k,D.str nm,D.sl 5 (T.ds kids),D.sl 1 (List.map D.str nms),D.int .i64 pl],(2:Int),(0:Int),false).fst) λ t=>some (t,(2:Int),(0:Int),false)) λ b=>bif yt b then zb (decide ((0:Int)<(↑(T.ds kids).length:Int))) (za (T.ds kids) (0:Int).toNat λ y=>za y.cells 0 λ c=>za y.cells 1 λ c_1=>za y.cells 2 λ c_2=>za y.cells 3 λ c_3=>za y.cells 4 λ c_4=>zc (zi m (D.agg [c,c_1,c_2,c_3,c_4])) λ b=>bif zg b then zb (decide ((1:Int)<(↑(T.ds kids).length:Int))) (za (T.ds kids) (1:Int).toNat λ y=>za y.cells 0 λ c=>za y.cells 1 λ c_5=>za y.cells 2 λ c_6=>za y.cells 3 λ c_7=>za y.cells 4 λ c_8=>zc (zr (D.agg [c,c_5,c_6,c_7,c_8])) λ b=>some (Out.ret (V.d (D.bool (zz b))),[])) else some (Out.ret (V.d (D.bool false)),[])) else some (Out.ret (V.d (D.bool false)),[]) else bif decide (k=(10:Int)) then bif decide ((↑(List.map D.str nms).length:Int)=(0:Int)) then bif decide (nm=[]) then zc (qy (zi m) (D.sl 5 (T.ds kids))) λ b=>some (Out.ret (V.d (D.bool !b.any λ t=>!ym t)),[]) else some (Out.ret (V.d (D.bool false)),[]) else some (Out.ret (V.d (D.bool false)),[]) else some (Out.ret (V.d (D.bool false)),[]) else bif decide (k=(9:Int)) then zc (zc (zr (D.agg [D.int .i64 k,D.str nm,D.sl 5 (T.ds kids),D.sl 1 (List.map D.str nms),D.int .i64 pl],(2:Int),(0:Int),false).fst) λ t=>some (t,(2:Int),(0:Int),false)) λ b=>bif yt b then zb (decide ((0:Int)<(↑(T.ds kids).length:Int))) (za (T.ds kids) (0:Int).toNat λ y=>za y.cells 0 λ c=>za y.cells 1 λ c_1=>za y.cells 2 λ c_2=>za y.cells 3 λ c_3=>za y.cells 4 λ c_4=>zc (zi m (D.agg [c,c_1,c_2,c_3,c_4])) λ b=>bif zg b then zb (decide ((1:Int)<(↑(T.ds kids).length:Int))) (za (T.ds kids) (1:Int).toNat λ y=>za y.cells 0 λ c=>za y.cells 1 λ c_5=>za y.cells 2 λ c_6=>za y.cells 3 λ c_7=>za y.cells 4 λ c_8=>zc (zi m (D.agg [c,c_5,c_6,c_7,c_8])) λ b=>some (Out.ret (V.d (D.bool (zg b))),[])) else some (Out.ret (V.d (D.bool false)),[])) else some (Out.ret (V.d (D.bool false)),[]) else bif decide (k=(7:Int)) then zc (zc (zr (D.agg [D.int .i64 k,D.str nm,D.sl 5 (T.ds kids),D.sl 1 (List.map D.str nms),D.int .i64 pl],(2:Int),(0:Int),false).fst) λ t=>some (t,(2:Int),(0:Int),false)) λ b=>bif yt b then zb (decide ((0:Int)<(↑(T.ds kids).length:Int))) (za (T.ds kids) (0:Int).toNat λ y=>za y.cells 0 λ c=>za y.cells 1 λ c_1=>za y.cells 2 λ c_2=>za y.cells 3 λ c_3=>za y.cells 4 λ c_4=>zc (zi m (D.agg [c,c_1,c_2,c_3,c_4])) λ b=>bif zg b then zb (decide ((1:Int)<(↑(T.ds kids).length:Int))) (za (T.ds kids) (1:Int).toNat λ y=>za y.cells 0 λ c=>za y.cells 1 λ c_5=>za y.cells 2 λ c_6=>za y.cells 3 λ c_7=>za y.cells 4 λ c_8=>zc (zr (D.agg [c,c_5,c_6,c_7,c_8])) λ b=>some (Out.ret (V.d (D.bool (zz b))),[])) else some (Out.ret (V.d (D.bool false)),[])) else some (Out.ret (V.d (D.bool false)),[]) else bif decide (k=(10:Int)) then bif decide ((↑(List.map D.str nms).length:Int)=(0:Int)) then bif decide (nm=[]) then zc (qy (zi m) (D.sl 5 (T.ds kids))) λ b=>some (Out.ret (V.d (D.bool !b.any λ t=>!ym t)),[]) else some (Out.ret (V.d (D.bool false)),[]) else some (Out.ret (V.d (D.bool false)),[]) else some (Out.ret (V.d (D.bool false)),[]):=by kernel_rfl
theorem zng{c x:Bool}{σ:St}:(bif c then some (Out.ret (V.d (D.bool false)),σ) else some (Out.ret (V.d (D.bool x)),σ))=some (Out.ret (V.d (D.bool (!c&&x))),σ):=by cases c <;> rfl
theorem ydq{m:Nat}(hm:∀ t:T,t.depth≤m→t.ok=true→zj cx 94 [.d t.d] []=some (.ret (mkB (zg t)),[]))(t:T)(hd:t.depth≤m)(ho:t.ok=true) :
  zj cx 140 [.d t.d] []=some (.ret (mkB (ym t)),[]):=by
 have hA:knows cx (z7 94 ql (zi m) (λ t=>mkB (zg t)) K5).S (zj cx):=zk zem λ a q b _ h hb=>by
  obtain rfl:=wu h;obtain ⟨rfl,h1,h2⟩:=xl hb;exact hm b h1 h2
 have hE:knows cx (z7 138 (zir 171) (qy zr) (λ l=>mkB (l.any (λ t=>!zap t))) (z7 94 ql (zi m) (λ t=>mkB (zg t)) K5)).S (zj cx):=zk hA λ a q b hd h hb=>by
  obtain rfl:=zd2 h;obtain ⟨l,rfl,h1,h2⟩:=zfy hb;obtain ⟨rfl,h3⟩:=zg4 (λ x t h=>(wv h).1) h1;exact ya3 (λ x t h=>(wv h).1) zem z7p b h2 h3
 obtain ⟨k,nm,kids,nms,pl⟩:=t;obtain ⟨h1,h2,h3,h4,h5⟩:=vo ho;have hkd:T.depths kids≤m:=by simp only [T.depth] at hd; omega
 refine zm hE (N:=0) ?_;refine (g65 0 m k nm kids nms pl K5).trans ?_;have hT:∀ t∈kids,zi m t.d=some t:=λ t h=>zay hkd h5 h;have hC:∀ t∈kids,qy zr (.sl 5 (T.ds t.kids))=some t.kids:=λ t h=>by
  obtain ⟨k',nm',kids',nms',pl'⟩:=t;obtain ⟨_,q2,_,_,q5⟩:=vo (wx h5 h);exact zoy (λ u hu=>zd8 q5 hu) q2
 have e9:Nat.beq 1 (cx.P.cellsOf 9)=true:=by kernel_rfl
 have e26:Nat.beq 5 (cx.P.cellsOf 26)=true:=by kernel_rfl
 simp only [zc,zu,ph,zb,pw,yh,yk,xu,vk,vj,vi,vh,we,zps,zm4,zuw,zl1,znx,decide_true,e9,e26,Bool.true_or];have hk:k=11∨k ≠ 11:=by omega
 rcases hk with rfl | hk <;> rcases kids with _ | ⟨a,_ | ⟨b,_ | ⟨c,l⟩⟩⟩ <;> rcases nms with _ | ⟨x,nms⟩ <;> simp [ym,mkB,hT,hC,zce,zh1, *]
 ·obtain ⟨k,nm',kids',nms',pl'⟩:=a;rcases nms' with _ | ⟨x,nms'⟩ <;> simp [zao,zm9,zlw,zhk,zax,zce,zng,Bool.and_assoc,List.not_any_eq_all_not]; rfl
 ·obtain ⟨k,nm',kids',nms',pl'⟩:=a;rcases nms' with _ | ⟨x,nms'⟩ <;> simp [zao,zm9,zlw,zhk,zax,zce,zng,Bool.and_assoc,List.not_any_eq_all_not]; rfl
 ·rw [pb (by omega),pa (by omega)]
  rfl
theorem ydr{m:Nat}(hm:∀ t:T,t.depth≤m→t.ok=true→zj cx 94 [.d t.d] []=some (.ret (mkB (zg t)),[])) :
  knows cx (z7 139 ql (zi m) (λ t=>mkB (!ym t)) K5).S (zj cx):=zk zem λ a q b _ h hb=>by
 obtain rfl:=wu h;obtain ⟨rfl,h1,h2⟩:=xl hb;have h65:knows cx (z7 140 ql (zi m) (λ t=>mkB (ym t)) K5).S (zj cx):=zk zem λ a q b _ h hb=>by
  obtain rfl:=wu h;obtain ⟨rfl,h1,h2⟩:=xl hb;exact ydq hm b h1 h2
 refine zm h65 (N:=0) ?_;obtain ⟨k,nm,kids,nms,pl⟩:=b;refine (g64 0 k nm kids nms pl (zi m) K5).trans ?_;have:=zeq h1 h2;simp only [T.d] at this;rw [this];rfl
theorem z9y:∀ (m:Nat) (t:T),t.depth≤m→t.ok=true→zj cx 94 [.d t.d] []=some (.ret (mkB (zg t)),[])
 | 0,.mk ..,h,_=>by simp [T.depth] at h
 | m+1,.mk k nm kids nms pl,hd,ho=>by
  have hm:∀ t:T,t.depth≤m→t.ok=true→zj cx 94 [.d t.d] []=some (.ret (mkB (zg t)),[]):=λ t h1 h2=>z9y m t h1 h2;have hA:knows cx (z7 94 ql (zi m) (λ t=>mkB (zg t)) K5).S (zj cx):=zk zem λ a q b _ h hb=>by
   obtain rfl:=wu h;obtain ⟨rfl,h1,h2⟩:=xl hb;exact hm b h1 h2
  have hR:knows cx (z7 138 (zir 139) (qy (zi m)) (λ l=>mkB (l.any (λ t=>!ym t))) (z7 94 ql (zi m) (λ t=>mkB (zg t)) K5)).S (zj cx):=zk hA λ a q b hd h hb=>by
   obtain rfl:=zd2 h;obtain ⟨l,rfl,h1,h2⟩:=zfy hb;obtain ⟨rfl,h3⟩:=zg4 (λ x t h=>(xl h).1) h1;exact ya2 (λ x t h=>(xl h).1) zem (ydr hm) b h2 h3
  obtain ⟨h1,h2,h3,h4,h5⟩:=vo ho;have hkd:=qk hd;refine zm hR (N:=0) ?_;refine (g37 0 m k nm kids nms pl).trans ?_;have hC:zr (D.agg [D.int .i64 k,D.str nm,D.sl 5 (T.ds kids),D.sl 1 (List.map D.str nms),D.int .i64 pl])=some (.mk k nm kids nms pl):=zij ho;have hT:∀ t∈kids,zi m t.d=some t:=λ t h=>zay hkd h5 h;have hTC:∀ t∈kids,zr t.d=some t:=λ t h=>zd8 h5 h;have hts:qy (zi m) (.sl 5 (T.ds kids))=some kids:=zoy hT h2;simp only [hC,hts,zc,zu,ph,zaj h1,zb,pw,yh,yk,xu,vk,vj,vi,vh,we,yt,zps,zm4,zuw,zl1,znx,decide_true,Bool.and_true];clear hC hR hA ho hd hm hts;have hk:k=1∨k=2∨k=3∨k=4∨k=5∨k=6∨k=7∨k=8∨k=9∨k=10∨(k ≠ 1∧k ≠ 2∧k ≠ 3∧k ≠ 4∧k ≠ 5∧k ≠ 6∧k ≠ 7∧k ≠ 8∧k ≠ 9∧k ≠ 10):=by omega
  rcases hk with rfl | rfl | rfl | rfl | rfl | rfl | rfl | rfl | rfl | rfl | ⟨q1,q2,q3,q4,q5,q6,q7,q8,q9,q10⟩
  all_goals simp only [*,Int.reduceEq,decide_true,decide_false,pw,px]
  all_goals rcases kids with _ | ⟨a,_ | ⟨b,_ | ⟨c,l⟩⟩⟩
  all_goals rcases nms with _ | ⟨x,_ | ⟨y,nms⟩⟩
  all_goals simp [zg,mkB,hT,hTC,zce,zh1,Bool.and_assoc,List.not_any_eq_all_not,zgw]
  all_goals first | (simp [*]; done) | (rw [pb (p:=((nms.length:Int)+1+1<2)) (by omega),pb (p:=nms.length+1+1<2) (by omega)]; simp)
def K8:CK R1:=z7 95 ql zr (λ t=>mkB (zz t)) (z7 97 ql zr (λ t=>mkB (zao t)) (z7 96 ql zg2 (λ l=>mkB (l.all z6)) K1))
def KQ(m:Nat):CK R1:=z7 59 ql (zi m) (λ t=>mkB (zg t)) K8
end Go.Vai
end
