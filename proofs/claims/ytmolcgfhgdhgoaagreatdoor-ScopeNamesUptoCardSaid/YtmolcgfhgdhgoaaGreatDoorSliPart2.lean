/-
  Tree: what the reader's great functions answer, as plain functions by fuel. To: The library's contracts that are leaned on, at this program: strings.Builder's String, strings.Join, slices.Sort, slices.Clone, slices.Grow.
-/
import Derived.Test.YtmolcgfhgdhgoaaGreatDoorSliPart1
import Derived.Shelf.Spec.SlicesGrow
import Derived.Shelf.Strings.Builder1
import Derived.Shelf.Strings.Builder2
import Derived.Shelf.Strings.OnBuilder
import Derived.Shelf.Strings.BuilderF
import Derived.Shelf.Strings.BuilderK
import Derived.Shelf.Strings.Builder2Cap
import Derived.Shelf.Sort.Plain
import Derived.Shelf.Slices.Clone
import Derived.Test.YtmolcgfhgdhgoaaGreatDoorProg
set_option linter.all false
noncomputable section
namespace Go.Vai
open Go.Proofs
structure Tr where
 k:Int
 nm:List UInt8
 kids:List D
 nms:List D
 pl:Int
instance:Inhabited Tr:=⟨⟨0,[],[],[],0⟩⟩
def trD(t:Tr):D:=.agg [.int .i64 t.k,.str t.nm,.sl 5 t.kids,.sl 1 t.nms,.int .i64 t.pl]
inductive PR where
 | ok (t:Tr) (j:Int)
 | bad (a e j:Int)
def yw:PR→Bool | .ok _ _=>true | _=>false
def zc:PR→Tr | .ok t _=>t | _=>default
def zo:PR→Int | .ok _ j=>j | .bad _ _ j=>j
def yy:PR→Int | .bad a _ _=>a | _=>0
def xm:PR→Int | .bad _ e _=>e | _=>0
inductive PN where
 | ok (l:List D) (j:Int)
 | bad (a e j:Int)
def zji:PN→Bool | .ok _ _=>true | _=>false
def zo3:PN→List D | .ok l _=>l | _=>[]
def w9:PN→Int | .ok _ j=>j | .bad _ _ j=>j
def zgj:PN→Int | .bad a _ _=>a | _=>0
def zjk:PN→Int | .bad _ e _=>e | _=>0
def yv(o:Option PR)(K:Tr→Int→Option PR):Option PR:=za o λ p=>bif yw p then K (zc p) (zo p) else some (.bad (yy p) (xm p) (zo p))
def zim(o:Option PN)(K:List D→Int→Option PR):Option PR:=za o λ p=>bif zji p then K (zo3 p) (w9 p) else some (.bad (zgj p) (zjk p) (w9 p))
def wd(l:List D)(i:Int)(s:List UInt8)(K:Int→Option PR):Option PR:=za (zg l i) λ p=>bif zr p s then K (up i) else some (.bad p.2.2 61 i)
def zik(l:List D)(i:Int)(K:List UInt8→Int→Option PR):Option PR:=za (zg l i) λ p=>bif decide (p.1=1) then K p.2.1 (up i) else some (.bad p.2.2 61 i)
structure Tb where
 names:List D→Int→Option PN
 face:List D→Int→Option PR
 term:List D→Int→Int→Option PR
 after:List D→Int→Int→Tr→Option PR
 atom:List D→Int→Int→Option PR
 box:List D→Int→Int→Option PR
 join:List D→Int→Int→Option PR
 meet:List D→Int→Int→Option PR
 dim:List D→Int→Int→Option PR
def v7(l:List D):Bool:=decide (l.length<4294967296)
def zck:Nat→List D→Int→List D→Option PN
 | 0,_,_,_=>none
 | r+1,l,i,ns=>za (zg l i) λ p=>bif decide (p.1=1) then zh (v7 ns) (zck r l (up i) (ns++[.str p.2.1])) else some (.ok ns i)
def zdy(r:Nat)(l:List D)(i:Int):Option PN:=za (zg l i) λ p=>bif decide (p.1=1) then zck r l (up i) [.str p.2.1] else some (.bad p.2.2 61 i)
def zfz(g:Tb)(l:List D)(i v:Int):Option PR:=za (zg l i) λ p=>
 bif decide (200<v) then some (.bad p.2.2 62 i)
 else bif zr p [92] then zim (g.names l (up i)) λ ns j=>wd l j [46] λ j=>yv (g.term l j (up v)) λ t j=>some (.ok ⟨2,[],[trD t],ns,p.2.2⟩ j)
 else bif zr p [60] then zim (g.names l (up i)) λ ns j=>wd l j [62] λ j=>yv (g.term l j (up v)) λ t j=>some (.ok ⟨3,[],[trD t],ns,p.2.2⟩ j)
 else za (zf4 l i) λ b=>bif b
  then za (zg l (up i)) λ x=>yv (g.term l (up (up (up i))) (up v)) λ a j=>wd l j [41] λ j=>za (zg l j) λ q=>
   bif !decide (zbc q=0) then yv (g.term l (up j) (up v)) λ t j=>some (.ok ⟨zbc q,[],[trD a,trD t],[.str x.2.1],p.2.2⟩ j)
   else g.after l j v ⟨9,[],[trD ⟨1,x.2.1,[],[],x.2.2⟩,trD a],[],p.2.2⟩
  else yv (g.atom l i v) λ t j=>g.after l j v t
def zaw(g:Tb):Nat→List D→Int→Int→Tr→Option PR
 | 0,_,_,_,_=>none
 | r+1,l,i,v,t=>za (zg l i) λ p=>
  bif zr p [64] then yv (g.dim l (up i) (up v)) λ u j=>zaw g r l j v ⟨7,[],[trD t,trD u],[],t.pl⟩
  else bif decide (p.1=1)||zr p [40]||zr p [91] then yv (g.atom l i v) λ u j=>zaw g r l j v ⟨6,[],[trD t,trD u],[],t.pl⟩
  else bif !decide (zbc p=0) then yv (g.term l (up i) (up v)) λ u j=>some (.ok ⟨zbc p,[],[trD t,trD u],[],t.pl⟩ j)
  else some (.ok t i)
def zf5(g:Tb)(l:List D)(i v:Int):Option PR:=za (zg l i) λ p=>
 bif decide (p.1=1) then some (.ok ⟨1,p.2.1,[],[],p.2.2⟩ (up i))
 else bif zr p [91] then g.box l i v
 else bif zr p [40] then yv (g.term l (up i) (up v)) λ t j=>za (zg l j) λ q=>
  bif zr q [44] then yv (g.term l (up j) (up v)) λ u j=>wd l j [41] λ j=>some (.ok ⟨8,[],[trD t,trD u],[],p.2.2⟩ j)
  else bif zr q [58] then yv (g.term l (up j) (up v)) λ u j=>wd l j [41] λ j=>some (.ok ⟨9,[],[trD t,trD u],[],p.2.2⟩ j)
  else bif zr q [41] then some (.ok t (up j)) else some (.bad q.2.2 61 j)
 else some (.bad p.2.2 61 i)
def zm2(kids l:List D)(i:Int)(K:Int→Option PR):Option PR:=bif decide ((0:Int)<(kids.length:Int)) then wd l i [44] K else K i
def zcb(g:Tb):Nat→List D→Int→Int→List D→Int→Option PR
 | 0,_,_,_,_,_=>none
 | r+1,l,i,v,kids,a=>za (zg l i) λ p=>
  bif zr p [93] then some (.ok ⟨10,[],kids,[],a⟩ (up i))
  else zm2 kids l i λ j=>za (zg l j) λ q=>yv (g.face l j) λ f j=>za (zg l j) λ u=>
   bif zr u [45,62] then yv (g.term l (up j) (up v)) λ t j=>zh (v7 kids) (zcb g r l j v (kids++[trD ⟨11,[],[trD f,trD t],[],q.2.2⟩]) a)
   else zh (v7 kids) (zcb g r l j v (kids++[trD ⟨11,[],[trD f],[],q.2.2⟩]) a)
def zin(g:Tb)(r:Nat)(l:List D)(i v:Int):Option PR:=za (zg l i) λ p=>zcb g r l (up i) v [] p.2.2
def zd1:Nat→List D→Int→List D→Int→Option PR
 | 0,_,_,_,_=>none
 | r+1,l,i,kids,a=>za (zg l i) λ p=>
  bif zr p [40] then zik l (up i) λ s j=>wd l j [61] λ j=>za (zg l j) λ q=>
   bif zr q [48]||zr q [49] then wd l (up j) [41] λ j=>zh (v7 kids) <| za (zg l j) λ u=>
    bif zr u [40] then zd1 r l j (kids++[trD ⟨13,s,[],[.str q.2.1],p.2.2⟩]) a
    else some (.ok ⟨12,[],kids++[trD ⟨13,s,[],[.str q.2.1],p.2.2⟩],[],a⟩ j)
   else some (.bad q.2.2 61 j)
  else some (.bad p.2.2 61 i)
def zf2(r:Nat)(l:List D)(i:Int):Option PR:=za (zg l i) λ p=>bif zr p [49] then some (.ok ⟨12,[],[],[],p.2.2⟩ (up i)) else zd1 r l i [] p.2.2
def zd0(g:Tb):Nat→List D→Int→Int→Tr→Option PR
 | 0,_,_,_,_=>none
 | r+1,l,i,v,t=>za (zg l i) λ p=>bif zr p [92,47] then yv (g.meet l (up i) v) λ u j=>zd0 g r l j v ⟨14,[],[trD t,trD u],[],t.pl⟩ else some (.ok t i)
def zf1(g:Tb)(r:Nat)(l:List D)(i v:Int):Option PR:=yv (g.meet l i v) λ t j=>zd0 g r l j v t
def zdz(g:Tb):Nat→List D→Int→Int→Tr→Option PR
 | 0,_,_,_,_=>none
 | r+1,l,i,v,t=>za (zg l i) λ p=>bif zr p [47,92] then yv (g.dim l (up i) v) λ u j=>zdz g r l j v ⟨15,[],[trD t,trD u],[],t.pl⟩ else some (.ok t i)
def zf0(g:Tb)(r:Nat)(l:List D)(i v:Int):Option PR:=yv (g.dim l i v) λ t j=>zdz g r l j v t
def zil(g:Tb)(l:List D)(i v:Int):Option PR:=za (zg l i) λ p=>
 bif decide (200<v) then some (.bad p.2.2 62 i)
 else bif decide (p.1=1) then some (.ok ⟨1,p.2.1,[],[],p.2.2⟩ (up i))
 else bif zr p [48]||zr p [49] then some (.ok ⟨17,p.2.1,[],[],p.2.2⟩ (up i))
 else bif zr p [126] then yv (g.dim l (up i) (up v)) λ t j=>some (.ok ⟨16,[],[trD t],[],p.2.2⟩ j)
 else bif zr p [40] then yv (g.join l (up i) (up v)) λ t j=>wd l j [41] λ j=>some (.ok t j)
 else some (.bad p.2.2 61 i)
def zm1(g:Tb)(l:List D)(i:Int):Option PR:=za (zg l i) λ p=>zik l i λ s j=>wd l j [58] λ j=>yv (g.term l j 1) λ a j=>wd l j [61] λ j=>yv (g.term l j 1) λ t j=>wd l j [59] λ j=>some (.ok ⟨18,s,[trD a,trD t],[],p.2.2⟩ j)
def z7:Nat→Tb
 | 0=>⟨λ _ _=>none,λ _ _=>none,λ _ _ _=>none,λ _ _ _ _=>none,λ _ _ _=>none,λ _ _ _=>none,λ _ _ _=>none,λ _ _ _=>none,λ _ _ _=>none⟩
 | k+1=>⟨zdy k,zf2 k,zfz (z7 k),zaw (z7 k) k,zf5 (z7 k),zin (z7 k) k,zf1 (z7 k) k,zf0 (z7 k) k,zil (z7 k)⟩
def zij(k:Nat)(l:List D)(i:Int):Option PN:=(z7 k).names l i
def zkl(k:Nat)(l:List D)(i:Int):Option PR:=(z7 k).face l i
def xr(k:Nat)(l:List D)(i v:Int):Option PR:=(z7 k).term l i v
def zio(k:Nat)(l:List D)(i v:Int)(t:Tr):Option PR:=(z7 k).after l i v t
def zgk(k:Nat)(l:List D)(i v:Int):Option PR:=(z7 k).atom l i v
def zt1(k:Nat)(l:List D)(i v:Int):Option PR:=(z7 k).box l i v
def zqd(k:Nat)(l:List D)(i v:Int):Option PR:=(z7 k).join l i v
def zkk(k:Nat)(l:List D)(i v:Int):Option PR:=(z7 k).meet l i v
def zjj(k:Nat)(l:List D)(i v:Int):Option PR:=(z7 k).dim l i v
def zkm(k:Nat)(l:List D)(i:Int):Option PR:=zm1 (z7 k) l i
def vg(o:Option PR)(K:Out→Int→Option R1):Option R1:=za o λ p=>bif yw p then K (.ret (.d (trD (zc p)))) (zo p) else K (.pan (zcl (yy p) (xm p))) (zo p)
theorem zb5(o:Option PR)(l:List D)(K:Out→St→Option R1):vg o (λ o j=>K o (x1 l j))=zdq (vg o λ o j=>some (o,x1 l j)) K:=by
 unfold vg; simp only [y6,wi,vb]
def z10:List V→Option (Int×Tr) | [.d (.int .i64 s),.d (.agg [.int .i64 k,.str n,.sl 5 kids,.sl 1 nms,.int .i64 a])]=>some (s,⟨k,n,kids,nms,a⟩) | _=>none
theorem zv5{a:List V}{x:Int×Tr}(h:z10 a=some x):a=[.d (.int .i64 x.1),.d (trD x.2)]:=by
 unfold z10 at h; split at h <;> cases h; rfl
def F49(n:Nat):RF:=⟨Unit,zhb,λ l i _ K=>za (zij n l i) λ p=>bif zji p then K (.ret (.d (.sl 1 (zo3 p)))) (w9 p) else K (.pan (zcl (zgj p) (zjk p))) (w9 p),by intros; simp only [y6,wi,vb]⟩
def F25(n:Nat):RF:=⟨Int,zke,λ l i v K=>vg (xr n l i v) K,λ l i v K=>zb5 _ l K⟩
def afG(n:Nat)(l:List D)(i:Int)(K:Out→Int→Option R1):Int×Tr→Option R1 | (v,t)=>vg (zio n l i v t) K
def F54(n:Nat):RF:=⟨Int×Tr,z10,λ l i v K=>afG n l i K v,λ l i v K=>zb5 _ l K⟩
def F56(n:Nat):RF:=⟨Int,zke,λ l i v K=>vg (zgk n l i v) K,λ l i v K=>zb5 _ l K⟩
def F81(n:Nat):RF:=⟨Int,zke,λ l i v K=>vg (zt1 n l i v) K,λ l i v K=>zb5 _ l K⟩
def z5w(n:Nat):RF:=⟨Unit,zhb,λ l i _ K=>vg (zkl n l i) K,λ l i v K=>zb5 _ l K⟩
def z5x(n:Nat):RF:=⟨Int,zke,λ l i v K=>vg (zqd n l i v) K,λ l i v K=>zb5 _ l K⟩
def z5v(n:Nat):RF:=⟨Int,zke,λ l i v K=>vg (zkk n l i v) K,λ l i v K=>zb5 _ l K⟩
def F80(n:Nat):RF:=⟨Int,zke,λ l i v K=>vg (zjj n l i v) K,λ l i v K=>zb5 _ l K⟩
def F28(n:Nat):RF:=⟨Unit,zhb,λ l i _ K=>vg (zkm n l i) K,λ l i v K=>zb5 _ l K⟩
def zut:List V→St→Option (Int×Int×List D×Option Nat)
 | [.d (.int .i64 k),.d (.int .i64 a),.d (.sl 5 l)],[]=>some (k,a,l,none)
 | [.d (.int .i64 k),.d (.int .i64 a),.sl 5 l 0],[(0,.tok m)]=>some (k,a,l,some m)
 | _,_=>none
def z4a(K:Out→St→Option R1):Int×Int×List D×Option Nat→Option R1
 | (k,a,l,some m)=>K (.ret (.agg [.d (.int .i64 k),.d (.str []),.sl 5 l 0,.d (.sl 1 []),.d (.int .i64 a)])) [(0,.tok m)]
 | (k,a,l,none)=>K (.ret (.d (.agg [.int .i64 k,.str [],.sl 5 l,.sl 1 [],.int .i64 a]))) []
def z05(S:CK R1):CK R1 where
 S:=λ g args σ=>bif Nat.beq g 75 then za (zut args σ) λ q=>z4a (λ o s=>some (o,s)) q else S.S g args σ
 run:=λ g args σ K=>bif Nat.beq g 75 then za (zut args σ) λ q=>z4a K q else S.run g args σ K
 ok:=λ g a σ K=>by
  show _=zdq _ K;rw [wi,y6];cases Nat.beq g 75
  ·exact S.ok g a σ K
  ·simp only [p5];congr 1;funext q;obtain ⟨k,p,l,b⟩:=q;cases b <;> rfl
def T4(n:Nat):CK R1:=rdr 41 (F25 n) (rdr 74 (F54 n) (rdr 76 (F56 n) (rdr 105 (F81 n) (rdr 145 (z5w n) (rdr 144 (z5x n) (rdr 175 (z5v n) (rdr 104 (F80 n) (rdr 69 (F49 n) (z05 T3)))))))))
def yr(s:List UInt8):List D:=(we s).1
def qe(s:List UInt8):Int:=(we s).2.1
def xj(s:List UInt8):Int:=(we s).2.2
def zuu:List V→St→Option (List UInt8)
 | [.d (.str s)],[(0,.tok 0)]=>some s
 | _,_=>none
def zta(K:Out→St→Option R1)(s:List UInt8):Option R1:=
 bif decide (xj s=0) then K (.ret (.tup [.sl 3 (yr s) 0,.d (.int .i64 (qe s)),.d (.int .i64 0)])) [(0,.tok (yr s).length)]
 else K (.ret (.tup [.d (.sl 3 []),.d (.int .i64 (qe s)),.d (.int .i64 (xj s))])) [(0,.tok 0)]
theorem zuo(K:Out→St→Option R1)(s:List UInt8):zta K s=zdq (zta (λ o s=>some (o,s)) s) K:=by
 unfold zta;rw [wi];rfl
def more{α:Type}(f:Nat)(dec:List V→St→Option α)(go:(Out→St→Option R1)→α→Option R1)(ok:∀ K q,go K q=zdq (go (λ o s=>some (o,s)) q) K)(S:CK R1):CK R1 where
 S:=λ g args σ=>bif Nat.beq g f then za (dec args σ) λ q=>go (λ o s=>some (o,s)) q else S.S g args σ
 run:=λ g args σ K=>bif Nat.beq g f then za (dec args σ) λ q=>go K q else S.run g args σ K
 ok:=λ g a σ K=>by
  show _=zdq _ K;rw [wi,y6];cases Nat.beq g f
  ·exact S.ok g a σ K
  ·simp only [p5];congr 1;funext q;exact ok K q
theorem zcu{α:Type}{f:Nat}{dec:List V→St→Option α}{go:(Out→St→Option R1)→α→Option R1}{ok:∀ K q,go K q=zdq (go (λ o s=>some (o,s)) q) K}{S:CK R1}(hS:knows cx S.S (zl cx))
  (hf:∀ a σ q r,dec a σ=some q→go (λ o s=>some (o,s)) q=some r→zl cx f a σ=some r):knows cx (more f dec go ok S).S (zl cx):=by
 intro g args σ r hd h;simp only [more] at h;cases hg:Nat.beq g f <;> rw [hg] at h
 ·exact hS g args σ r hd h
 ·obtain rfl:=po hg;simp only [p5] at h;obtain ⟨q,hq,h⟩:=zb h;exact hf args σ q r hq h
theorem zr2{s:List UInt8}{e:Nat}{l:List D}(h:Cov s e l):∃ I,l=I++[zy 0 [] (s.length:Int)]:=by
 induction h with
 | fin _ _=>exact ⟨[],rfl⟩
 | tok _ _ _ _ _ _ ih=>obtain ⟨I,rfl⟩:=ih; exact ⟨_::I,rfl⟩
theorem scan_ok{s:List UInt8}(h:decide (xj s=0)=true):∃ I,yr s=I++[zy 0 [] (s.length:Int)]:=by
 simp only [decide_eq_true_eq] at h;rcases zdo s with ⟨_,_,l,hl,hc⟩ | ⟨h1,_⟩
 ·obtain ⟨I,rfl⟩:=zr2 hc;exact ⟨I,by unfold yr; rw [hl]⟩
 ·exact absurd h h1
theorem zxs(a:List V)(σ:St)(s:List UInt8)(r:R1)(hd:zuu a σ=some s)(h:zta (λ o s=>some (o,s)) s=some r):zl cx 63 a σ=some r:=by
 unfold zuu at hd;split at hd
 ·cases hd;rw [z42];unfold zta at h;cases hs:decide (xj s=0) <;> rw [hs] at h
  ·rw [p6] at h;simp only [decide_eq_false_iff_not] at hs;rcases zdo s with ⟨_,_,l,hl,_⟩ | ⟨_,h2,_⟩
   ·exact absurd (by unfold xj; rw [hl]) hs
   ·rw [←h]; unfold zd9; rw [h2]; rfl
  ·obtain ⟨I,hI⟩:=scan_ok hs;have hz:(we s).2.2=0:=ph hs;rw [p5] at h;rw [←h];unfold zd9;rw [hz];unfold yr qe;have e:z1y (we s).1=.sl 3 (we s).1 0:=by
    have:(we s).1=I++[zy 0 [] (s.length:Int)]:=hI;rw [this]; exact zrl _ _
   rw [e]
 ·cases hd
def zwl(s:List UInt8)(i:Int):Int:=((z6 (s.drop i.toNat) v6).2.length:Int)
def z0f(s:List UInt8):Int:=match wy s.length s 0 with | some p=>(p:Int) | none=>-1
def z2d:List V→Option Out | [.d (.str s)]=>some (.ret (.d (.int .i64 (z0f s)))) | _=>none
def z2n:List V→Option Out | [.d (.str s),.d (.int .i64 i)]=>some (.ret (.d (.int .i64 (zwl s i)))) | _=>none
def S8:yu:=zgm 197 z2d (zgm 198 (zoz zbb) (zgm 199 (zoz yq) (zgm 200 (zoz wl) (zgm 201 z2n xx))))
abbrev fr8(s:List UInt8)(j:Nat)(l:List D):Fr:=[(0,.d (.str s)),(6,.sl 3 l 6),(7,.d (.int .i64 (j:Int)))]
abbrev L8 (n k:Nat) (s:List UInt8) (j:Nat) (l:List D):Option (Out×St):=LP cx S8 n 166 0 8 k (fr8 s j l) [(6,.tok l.length)] (AK cx S8 n 166 0 8 (EK cx 166 0))
inductive T where
 | mk (k:Int) (nm:List UInt8) (kids:List T) (nms:List (List UInt8)) (pl:Int)
instance:Inhabited T:=⟨.mk 0 [] [] [] 0⟩
def strs:List D→Option (List (List UInt8))
 | []=>some []
 | .str s::r=>(match strs r with | some l=>some (s::l) | none=>none)
 | _::_=>none
theorem znl:∀ {l:List D} {m},strs l=some m→l=m.map .str
 | [],m,h=>by cases h; rfl
 | x::r,m,h=>by
  unfold strs at h;split at h
  ·rename_i he; cases he
  ·rename_i s q he;cases he;split at h
   ·rename_i l hl; cases h; rw [znl hl]; rfl
   ·cases h
  ·cases h
def zo8{α:Type}(l:List α):Bool:=decide (l.length<4294967296)
theorem zvg{R:Type}{l:List (List UInt8)}{i:Nat}{K:D→Option R}:vh (l.map D.str) i K=za l[i]? λ t=>K (.str t):=by
 unfold vh;rw [List.getElem?_map];cases l[i]? <;> rfl
def xl{α β:Type}(f:Nat)(dec:List V→Option α)(sp:α→Option β)(mk:β→V)(S:CK R1):CK R1 where
 S:=λ g args σ=>bif Nat.beq g f&&σ.isEmpty then za (dec args) λ q=>za (sp q) λ b=>some (.ret (mk b),[]) else S.S g args σ
 run:=λ g args σ K=>bif Nat.beq g f&&σ.isEmpty then za (dec args) λ q=>za (sp q) λ b=>K (.ret (mk b)) [] else S.run g args σ K
 ok:=λ g a σ K=>by
  show _=zdq _ K;rw [wi,y6];cases Nat.beq g f&&σ.isEmpty
  ·exact S.ok g a σ K
  ·simp only [p5,y6];rfl
theorem yp{α β:Type}{f:Nat}{dec:List V→Option α}{sp:α→Option β}{mk:β→V}{S:CK R1}(hS:knows cx S.S (zl cx))
  (hf:∀ a q b,cx.dom f a=true→dec a=some q→sp q=some b→zl cx f a []=some (.ret (mk b),[])):knows cx (xl f dec sp mk S).S (zl cx):=by
 intro g args σ r hd h;simp only [xl] at h;cases hg:(Nat.beq g f&&σ.isEmpty) <;> rw [hg] at h
 ·exact hS g args σ r hd h
 ·rw [pq] at hg;obtain rfl:=po hg.1;obtain rfl:=List.isEmpty_iff.1 hg.2;simp only [p5] at h;obtain ⟨q,hq,h⟩:=zb h;obtain ⟨b,hb,h⟩:=zb h;cases h;exact hf args q b hd hq hb
def K13:CK R1:=more 63 zuu zta zuo (CK.plain xx)
theorem zwr:knows cx K13.S (zl cx):=zcu yj zxs
def mkB(b:Bool):V:=.d (.bool b)
def mkI(i:Int):V:=.d (.int .i64 i)
def mkS(s:List UInt8):V:=.d (.str s)
theorem g36(n:Nat)(s:List UInt8) :
    zx cx K13 n 126 [.d (.str s)] [] =
  zh (decide (s.length≤big))
    (bif decide (xj s=0) then
      bif decide ((↑(yr s).length:Int)=(2:Int)) then
        zh (decide ((0:Int)<(↑(yr s).length:Int)))
          (vh (yr s) (0:Int).toNat λ y=>
            vh y.cells 0 λ c=>
              match c with
              | D.int k' n=>
                bif decide (k'=IntKind.i64) then
                  bif decide (n=(1:Int)) then
                    zh (decide ((0:Int)<(↑(yr s).length:Int)))
                      (vh (yr s) (0:Int).toNat λ y=>
                        vh y.cells 1 λ c=>
                          match c with
                          | D.str s_1=>some (Out.ret (V.d (D.bool (decide (s_1=s)))),[])
                          | x=>none)
                  else some (Out.ret (V.d (D.bool false)),[])
                else none
              | x=>none)
      else some (Out.ret (V.d (D.bool false)),[])
    else
      bif decide (xj s=(0:Int)) then some (Out.ret (V.d (D.bool false)),[])
      else some (Out.ret (V.d (D.bool false)),[])):=by kernel_rfl
def zwm(s:List UInt8):D→Bool | .agg [.int .i64 k,.str t,.int .i64 _]=>decide (k=1)&&decide (t=s) | _=>false
def q8(s:List UInt8):Bool:=decide (xj s=0)&&(match yr s with | [x,_]=>zwm s x | _=>false)
theorem zy6{s:List UInt8}(h:xj s=0)(h2:(yr s).length=2):∃ k t a y,yr s=[zy k t a,y]:=by
 rcases zdo s with ⟨_,_,l,hl,hc⟩ | ⟨h1,_⟩
 ·have e:yr s=l:=by unfold yr; rw [hl]
  rw [e] at h2 ⊢;cases hc with
  | fin _ _=>simp at h2
  | tok _ _ _ _ _ h=>
   cases h with
   | fin _ _=>exact ⟨_,_,_,_,rfl⟩
   | tok _ _ _ _ _ h=>have:=h.ne; simp only [p7] at h2; omega
 ·exact absurd h h1
theorem zxk{s:List UInt8}(h2:(yr s).length ≠ 2):q8 s=false:=by
 unfold q8;split
 ·rename_i x y h; rw [h] at h2; simp at h2
 ·simp
theorem z3k(s:List UInt8)(hs:s.length≤big):zl cx 126 [.d (.str s)] []=some (.ret (.d (.bool (q8 s))),[]):=by
 refine zt zwr (N:=0) ?_;rw [g36,pb hs];by_cases h:xj s=0
 ·rw [pb h];by_cases h2:(yr s).length=2
  ·obtain ⟨k,t,a,y,hl⟩:=zy6 h h2;have e:q8 s=(decide (k=1)&&decide (t=s)):=by unfold q8; rw [h,hl]; rfl
   rw [e,hl];show (bif decide (k=1) then _ else _)=_;cases decide (k=1) <;> rfl
  ·rw [zxk h2,pd (p:=((yr s).length:Int)=2) (by omega)]
   rfl
 ·have e:q8 s=false:=by unfold q8; rw [pd h]; rfl
  rw [pd h,e];rfl
def yn{α:Type}(p:α→Bool):List α→Nat→Option Nat
 | [],_=>none
 | x::r,j=>bif p x then some j else yn p r (j+1)
def zez{α:Type}(p:α→Bool)(l:List α):Int:=match yn p l 0 with | some j=>(j:Int) | none=>-1
theorem z1e{j n:Nat}(h:j<n):decide ((j:Int)<(n:Int))=true:=pb (by omega)
theorem z1z{n:Nat}:decide ((n:Int)<(n:Int))=false:=pd (by omega)
theorem z06{j:Nat}:decide ((0:Int)≤(j:Int))=true:=pb (by omega)
theorem z0e{α:Type}{l r:List α}{x:α}{j:Nat}(h:l.drop j=x::r):j<l.length∧l[j]?=some x∧l.drop (j+1)=r:=by
 have h1:j<l.length:=by
  by_cases h':j<l.length
  ·exact h'
  ·rw [List.drop_eq_nil_of_le (by omega)] at h; cases h
 rw [List.drop_eq_getElem_cons h1] at h;injection h with h2 h3;exact ⟨h1,by rw [p9 h1,h2],h3⟩
theorem zww{j n:Nat}(h:j<n)(hn:n<4294967296):IntKind.i64.wrap ((j:Int)+1)=((j+1:Nat):Int):=by
 rw [IntWalk.i64_in _ (by omega)]; rfl
theorem zoj{R α:Type}(L:Nat→Int→Option R)(xs:List α)(p:α→Bool)(B:Nat→Option R)(E:Option R)(hs:xs.length<4294967296)
  (H:∀ (k j:Nat) x,j<xs.length→xs[j]?=some x→L (k+1) j=bif p x then B j else L k (IntKind.i64.wrap ((j:Int)+1))) (HE:∀ k,L (k+1) xs.length=E) :
  ∀ (r:List α) (j k:Nat),xs.drop j=r→j≤xs.length→r.length<k→L k j=match yn p r j with | some i=>B i | none=>E
 | [],j,k,hd,hj,hk=>by
  obtain ⟨k,rfl⟩:∃ i,k=i+1:=⟨k - 1,by omega⟩
  have:xs.length≤j:=by simpa using hd
  obtain rfl:j=xs.length:=by omega
  exact HE k
 | x::r,j,k,hd,hj,hk=>by
  obtain ⟨k,rfl⟩:∃ i,k=i+1:=⟨k - 1,by omega⟩
  obtain ⟨h1,h2,h3⟩:=z0e hd;rw [H k j x h1 h2,yn];cases p x
  ·rw [p6,p6,zww h1 hs];exact zoj L xs p B E hs H HE r (j+1) k h3 h1 (by simp at hk; omega)
  ·rfl
theorem ztc{R α:Type}(L:Nat→Int→Option R)(xs:List α)(p:α→Bool)(B:Nat→Option R)(E:Option R)(hs:xs.length<4294967296)
  (H:∀ (k j:Nat) x,j<xs.length→xs[j]?=some x→L (k+1) j=bif p x then B j else L k (IntKind.i64.wrap ((j:Int)+1))) (HE:∀ k,L (k+1) xs.length=E) {k:Nat} (hk:xs.length<k) :
  L k 0=match yn p xs 0 with | some i=>B i | none=>E:=zoj L xs p B E hs H HE xs 0 k rfl (Nat.zero_le _) hk
theorem zy5{α:Type}{l:List α}(h:zo8 l=true):l.length<4294967296:=ph h
theorem g49(n k:Nat)(l:List D)(i:Int):zx cx (T4 k) n 69 [.ptr 0 0] [(0,.val 2 (.d (.agg [.sl 3 l,.int .i64 i])))]=za (zg l i) λ p=>bif decide (p.fst=1) then LP cx (T4 k) n 69 1 2 n [(0,V.ptr 0 0),(3,V.sl 1 [D.str p.snd.1] 7)] [(0,Ob.val 2 (V.d (D.agg [D.sl 3 l,D.int .i64 (up i)]))),(7,Ob.tok 1)] (AK cx (T4 k) n 69 1 2 (EK cx 69 1)) else some (Out.pan (V.d (D.iface 115 (D.agg [D.int .i64 p.snd.snd,D.int .i64 (61:Int)]))),[(0,Ob.val 2 (V.d (D.agg [D.sl 3 l,D.int .i64 i])))]):=by kernel_rfl
theorem g25(n k:Nat)(l:List D)(i v:Int):zx cx (T4 k) n 41 [.ptr 0 0,.d (.int .i64 v)] [(0,.val 2 (.d (.agg [.sl 3 l,.int .i64 i])))]=bif decide (200<v) then za (zg l i) λ p=>some (Out.pan (V.d (D.iface 115 (D.agg [D.int .i64 p.snd.snd,D.int .i64 (62:Int)]))),[(0,Ob.val 2 (V.d (D.agg [D.sl 3 l,D.int .i64 i])))]) else za (zg l i) λ p=>za (zg l i) λ p_1=>bif zr p_1 [92] then za (zij k l (IntKind.i64.wrap (i+(1:Int)))) λ p_2=>bif zji p_2 then za (zg l (w9 p_2)) λ p_3=>bif zr p_3 [46] then za (xr k l (up (w9 p_2)) (IntKind.i64.wrap (v+(1:Int)))) λ p_4=>bif yw p_4 then some (Out.ret (V.d (D.agg [D.int .i64 (2:Int),D.str [],D.sl 5 [D.agg [D.int .i64 (zc p_4).k,D.str (zc p_4).2,D.sl 5 (zc p_4).3,D.sl 1 (zc p_4).4,D.int .i64 (zc p_4).pl]],D.sl 1 (zo3 p_2),D.int .i64 p.snd.snd])),[(0,Ob.val 2 (V.d (D.agg [D.sl 3 l,D.int .i64 (zo p_4)])))]) else some (Out.pan (V.d (D.iface 115 (D.agg [D.int .i64 (yy p_4),D.int .i64 (xm p_4)]))),[(0,Ob.val 2 (V.d (D.agg [D.sl 3 l,D.int .i64 (zo p_4)])))]) else some (Out.pan (V.d (D.iface 115 (D.agg [D.int .i64 p_3.snd.snd,D.int .i64 (61:Int)]))),[(0,Ob.val 2 (V.d (D.agg [D.sl 3 l,D.int .i64 (w9 p_2)])))]) else some (Out.pan (V.d (D.iface 115 (D.agg [D.int .i64 (zgj p_2),D.int .i64 (zjk p_2)]))),[(0,Ob.val 2 (V.d (D.agg [D.sl 3 l,D.int .i64 (w9 p_2)])))]) else za (zg l i) λ p_2=>bif zr p_2 [60] then za (zij k l (IntKind.i64.wrap (i+(1:Int)))) λ p_3=>bif zji p_3 then za (zg l (w9 p_3)) λ p_4=>bif zr p_4 [62] then za (xr k l (up (w9 p_3)) (IntKind.i64.wrap (v+(1:Int)))) λ p_5=>bif yw p_5 then some (Out.ret (V.d (D.agg [D.int .i64 (3:Int),D.str [],D.sl 5 [D.agg [D.int .i64 (zc p_5).k,D.str (zc p_5).2,D.sl 5 (zc p_5).3,D.sl 1 (zc p_5).4,D.int .i64 (zc p_5).pl]],D.sl 1 (zo3 p_3),D.int .i64 p.snd.snd])),[(0,Ob.val 2 (V.d (D.agg [D.sl 3 l,D.int .i64 (zo p_5)])))]) else some (Out.pan (V.d (D.iface 115 (D.agg [D.int .i64 (yy p_5),D.int .i64 (xm p_5)]))),[(0,Ob.val 2 (V.d (D.agg [D.sl 3 l,D.int .i64 (zo p_5)])))]) else some (Out.pan (V.d (D.iface 115 (D.agg [D.int .i64 p_4.snd.snd,D.int .i64 (61:Int)]))),[(0,Ob.val 2 (V.d (D.agg [D.sl 3 l,D.int .i64 (w9 p_3)])))]) else some (Out.pan (V.d (D.iface 115 (D.agg [D.int .i64 (zgj p_3),D.int .i64 (zjk p_3)]))),[(0,Ob.val 2 (V.d (D.agg [D.sl 3 l,D.int .i64 (w9 p_3)])))]) else za (zf4 l i) λ b=>bif b then za (zg l (IntKind.i64.wrap (i+(1:Int)))) λ p_3=>za (xr k l (IntKind.i64.wrap (up (IntKind.i64.wrap (i+(1:Int)))+(1:Int))) (IntKind.i64.wrap (v+(1:Int)))) λ p_4=>bif yw p_4 then za (zg l (zo p_4)) λ p_5=>bif zr p_5 [41] then za (zg l (up (zo p_4))) λ p_6=>bif !decide (zbc p_6=(0:Int)) then za (xr k l (IntKind.i64.wrap (up (zo p_4)+(1:Int))) (IntKind.i64.wrap (v+(1:Int)))) λ p_7=>bif yw p_7 then some (Out.ret (V.d (D.agg [D.int .i64 (zbc p_6),D.str [],D.sl 5 [D.agg [D.int .i64 (zc p_4).k,D.str (zc p_4).2,D.sl 5 (zc p_4).3,D.sl 1 (zc p_4).4,D.int .i64 (zc p_4).pl],D.agg [D.int .i64 (zc p_7).k,D.str (zc p_7).2,D.sl 5 (zc p_7).3,D.sl 1 (zc p_7).4,D.int .i64 (zc p_7).pl]],D.sl 1 [D.str p_3.snd.1],D.int .i64 p.snd.snd])),[(0,Ob.val 2 (V.d (D.agg [D.sl 3 l,D.int .i64 (zo p_7)])))]) else some (Out.pan (V.d (D.iface 115 (D.agg [D.int .i64 (yy p_7),D.int .i64 (xm p_7)]))),[(0,Ob.val 2 (V.d (D.agg [D.sl 3 l,D.int .i64 (zo p_7)])))]) else za (zio k l (up (zo p_4)) v { k:=(9:Int),nm:=[],kids:=[D.agg [D.int .i64 (1:Int),D.str p_3.snd.1,D.sl 5 [],D.sl 1 [],D.int .i64 p_3.snd.snd],D.agg [D.int .i64 (zc p_4).k,D.str (zc p_4).2,D.sl 5 (zc p_4).3,D.sl 1 (zc p_4).4,D.int .i64 (zc p_4).pl]],nms:=[],pl:=p.snd.snd }) λ p=>bif yw p then some (Out.ret (V.d (D.agg [D.int .i64 (zc p).k,D.str (zc p).2,D.sl 5 (zc p).3,D.sl 1 (zc p).4,D.int .i64 (zc p).pl])),[(0,Ob.val 2 (V.d (D.agg [D.sl 3 l,D.int .i64 (zo p)])))]) else some (Out.pan (V.d (D.iface 115 (D.agg [D.int .i64 (yy p),D.int .i64 (xm p)]))),[(0,Ob.val 2 (V.d (D.agg [D.sl 3 l,D.int .i64 (zo p)])))]) else some (Out.pan (V.d (D.iface 115 (D.agg [D.int .i64 p_5.snd.snd,D.int .i64 (61:Int)]))),[(0,Ob.val 2 (V.d (D.agg [D.sl 3 l,D.int .i64 (zo p_4)])))]) else some (Out.pan (V.d (D.iface 115 (D.agg [D.int .i64 (yy p_4),D.int .i64 (xm p_4)]))),[(0,Ob.val 2 (V.d (D.agg [D.sl 3 l,D.int .i64 (zo p_4)])))]) else za (zgk k l i v) λ p=>bif yw p then za (zio k l (zo p) v { k:=(zc p).k,nm:=(zc p).2,kids:=(zc p).3,nms:=(zc p).4,pl:=(zc p).pl }) λ p=>bif yw p then some (Out.ret (V.d (D.agg [D.int .i64 (zc p).k,D.str (zc p).2,D.sl 5 (zc p).3,D.sl 1 (zc p).4,D.int .i64 (zc p).pl])),[(0,Ob.val 2 (V.d (D.agg [D.sl 3 l,D.int .i64 (zo p)])))]) else some (Out.pan (V.d (D.iface 115 (D.agg [D.int .i64 (yy p),D.int .i64 (xm p)]))),[(0,Ob.val 2 (V.d (D.agg [D.sl 3 l,D.int .i64 (zo p)])))]) else some (Out.pan (V.d (D.iface 115 (D.agg [D.int .i64 (yy p),D.int .i64 (xm p)]))),[(0,Ob.val 2 (V.d (D.agg [D.sl 3 l,D.int .i64 (zo p)])))]):=by kernel_rfl
theorem g56(n k:Nat)(l:List D)(i v:Int):zx cx (T4 k) n 76 [.ptr 0 0,.d (.int .i64 v)] [(0,.val 2 (.d (.agg [.sl 3 l,.int .i64 i])))]=za (zg l i) λ p=>za (zg l i) λ p_1=>bif decide (p_1.fst=(1:Int)) then za (zg l i) λ p_2=>bif decide (p_2.fst=1) then some (Out.ret (V.d (D.agg [D.int .i64 (1:Int),D.str p_2.snd.1,D.sl 5 [],D.sl 1 [],D.int .i64 p.snd.snd])),[(0,Ob.val 2 (V.d (D.agg [D.sl 3 l,D.int .i64 (up i)])))]) else some (Out.pan (V.d (D.iface 115 (D.agg [D.int .i64 p_2.snd.snd,D.int .i64 (61:Int)]))),[(0,Ob.val 2 (V.d (D.agg [D.sl 3 l,D.int .i64 i])))]) else za (zg l i) λ p_2=>bif zr p_2 [91] then za (zt1 k l i v) λ p=>bif yw p then some (Out.ret (V.d (D.agg [D.int .i64 (zc p).k,D.str (zc p).2,D.sl 5 (zc p).3,D.sl 1 (zc p).4,D.int .i64 (zc p).pl])),[(0,Ob.val 2 (V.d (D.agg [D.sl 3 l,D.int .i64 (zo p)])))]) else some (Out.pan (V.d (D.iface 115 (D.agg [D.int .i64 (yy p),D.int .i64 (xm p)]))),[(0,Ob.val 2 (V.d (D.agg [D.sl 3 l,D.int .i64 (zo p)])))]) else za (zg l i) λ p_3=>bif zr p_3 [40] then za (xr k l (up i) (IntKind.i64.wrap (v+(1:Int)))) λ p_4=>bif yw p_4 then za (zg l (zo p_4)) λ p_5=>bif zr p_5 [44] then za (xr k l (IntKind.i64.wrap (zo p_4+(1:Int))) (IntKind.i64.wrap (v+(1:Int)))) λ p_6=>bif yw p_6 then za (zg l (zo p_6)) λ p_7=>bif zr p_7 [41] then some (Out.ret (V.d (D.agg [D.int .i64 (8:Int),D.str [],D.sl 5 [D.agg [D.int .i64 (zc p_4).k,D.str (zc p_4).2,D.sl 5 (zc p_4).3,D.sl 1 (zc p_4).4,D.int .i64 (zc p_4).pl],D.agg [D.int .i64 (zc p_6).k,D.str (zc p_6).2,D.sl 5 (zc p_6).3,D.sl 1 (zc p_6).4,D.int .i64 (zc p_6).pl]],D.sl 1 [],D.int .i64 p.snd.snd])),[(0,Ob.val 2 (V.d (D.agg [D.sl 3 l,D.int .i64 (up (zo p_6))])))]) else some (Out.pan (V.d (D.iface 115 (D.agg [D.int .i64 p_7.snd.snd,D.int .i64 (61:Int)]))),[(0,Ob.val 2 (V.d (D.agg [D.sl 3 l,D.int .i64 (zo p_6)])))]) else some (Out.pan (V.d (D.iface 115 (D.agg [D.int .i64 (yy p_6),D.int .i64 (xm p_6)]))),[(0,Ob.val 2 (V.d (D.agg [D.sl 3 l,D.int .i64 (zo p_6)])))]) else za (zg l (zo p_4)) λ p_6=>bif zr p_6 [58] then za (xr k l (IntKind.i64.wrap (zo p_4+(1:Int))) (IntKind.i64.wrap (v+(1:Int)))) λ p_7=>bif yw p_7 then za (zg l (zo p_7)) λ p_8=>bif zr p_8 [41] then some (Out.ret (V.d (D.agg [D.int .i64 (9:Int),D.str [],D.sl 5 [D.agg [D.int .i64 (zc p_4).k,D.str (zc p_4).2,D.sl 5 (zc p_4).3,D.sl 1 (zc p_4).4,D.int .i64 (zc p_4).pl],D.agg [D.int .i64 (zc p_7).k,D.str (zc p_7).2,D.sl 5 (zc p_7).3,D.sl 1 (zc p_7).4,D.int .i64 (zc p_7).pl]],D.sl 1 [],D.int .i64 p.snd.snd])),[(0,Ob.val 2 (V.d (D.agg [D.sl 3 l,D.int .i64 (up (zo p_7))])))]) else some (Out.pan (V.d (D.iface 115 (D.agg [D.int .i64 p_8.snd.snd,D.int .i64 (61:Int)]))),[(0,Ob.val 2 (V.d (D.agg [D.sl 3 l,D.int .i64 (zo p_7)])))]) else some (Out.pan (V.d (D.iface 115 (D.agg [D.int .i64 (yy p_7),D.int .i64 (xm p_7)]))),[(0,Ob.val 2 (V.d (D.agg [D.sl 3 l,D.int .i64 (zo p_7)])))]) else za (zg l (zo p_4)) λ p=>bif zr p [41] then some (Out.ret (V.d (D.agg [D.int .i64 (zc p_4).k,D.str (zc p_4).2,D.sl 5 (zc p_4).3,D.sl 1 (zc p_4).4,D.int .i64 (zc p_4).pl])),[(0,Ob.val 2 (V.d (D.agg [D.sl 3 l,D.int .i64 (up (zo p_4))])))]) else some (Out.pan (V.d (D.iface 115 (D.agg [D.int .i64 p.snd.snd,D.int .i64 (61:Int)]))),[(0,Ob.val 2 (V.d (D.agg [D.sl 3 l,D.int .i64 (zo p_4)])))]) else some (Out.pan (V.d (D.iface 115 (D.agg [D.int .i64 (yy p_4),D.int .i64 (xm p_4)]))),[(0,Ob.val 2 (V.d (D.agg [D.sl 3 l,D.int .i64 (zo p_4)])))]) else some (Out.pan (V.d (D.iface 115 (D.agg [D.int .i64 p_3.snd.snd,D.int .i64 (61:Int)]))),[(0,Ob.val 2 (V.d (D.agg [D.sl 3 l,D.int .i64 i])))]):=by kernel_rfl
theorem g80(n k:Nat)(l:List D)(i v:Int):zx cx (T4 k) n 104 [.ptr 0 0,.d (.int .i64 v)] [(0,.val 2 (.d (.agg [.sl 3 l,.int .i64 i])))]=bif decide (200<v) then za (zg l i) λ p=>some (Out.pan (V.d (D.iface 115 (D.agg [D.int .i64 p.snd.snd,D.int .i64 (62:Int)]))),[(0,Ob.val 2 (V.d (D.agg [D.sl 3 l,D.int .i64 i])))]) else za (zg l i) λ p=>za (zg l i) λ p_1=>bif decide (p_1.fst=(1:Int)) then za (zg l i) λ p_2=>bif decide (p_2.fst=1) then some (Out.ret (V.d (D.agg [D.int .i64 (1:Int),D.str p_2.snd.1,D.sl 5 [],D.sl 1 [],D.int .i64 p.snd.snd])),[(0,Ob.val 2 (V.d (D.agg [D.sl 3 l,D.int .i64 (up i)])))]) else some (Out.pan (V.d (D.iface 115 (D.agg [D.int .i64 p_2.snd.snd,D.int .i64 (61:Int)]))),[(0,Ob.val 2 (V.d (D.agg [D.sl 3 l,D.int .i64 i])))]) else za (zg l i) λ p_2=>bif zr p_2 [48] then za (zg l i) λ p_3=>some (Out.ret (V.d (D.agg [D.int .i64 (17:Int),D.str p_3.snd.1,D.sl 5 [],D.sl 1 [],D.int .i64 p.snd.snd])),[(0,Ob.val 2 (V.d (D.agg [D.sl 3 l,D.int .i64 (up i)])))]) else za (zg l i) λ p_3=>bif zr p_3 [49] then za (zg l i) λ p_4=>some (Out.ret (V.d (D.agg [D.int .i64 (17:Int),D.str p_4.snd.1,D.sl 5 [],D.sl 1 [],D.int .i64 p.snd.snd])),[(0,Ob.val 2 (V.d (D.agg [D.sl 3 l,D.int .i64 (up i)])))]) else za (zg l i) λ p_4=>bif zr p_4 [126] then za (zjj k l (IntKind.i64.wrap (i+(1:Int))) (IntKind.i64.wrap (v+(1:Int)))) λ p_5=>bif yw p_5 then some (Out.ret (V.d (D.agg [D.int .i64 (16:Int),D.str [],D.sl 5 [D.agg [D.int .i64 (zc p_5).k,D.str (zc p_5).2,D.sl 5 (zc p_5).3,D.sl 1 (zc p_5).4,D.int .i64 (zc p_5).pl]],D.sl 1 [],D.int .i64 p.snd.snd])),[(0,Ob.val 2 (V.d (D.agg [D.sl 3 l,D.int .i64 (zo p_5)])))]) else some (Out.pan (V.d (D.iface 115 (D.agg [D.int .i64 (yy p_5),D.int .i64 (xm p_5)]))),[(0,Ob.val 2 (V.d (D.agg [D.sl 3 l,D.int .i64 (zo p_5)])))]) else za (zg l i) λ p=>bif zr p [40] then za (zqd k l (up i) (IntKind.i64.wrap (v+(1:Int)))) λ p=>bif yw p then za (zg l (zo p)) λ p_5=>bif zr p_5 [41] then some (Out.ret (V.d (D.agg [D.int .i64 (zc p).k,D.str (zc p).2,D.sl 5 (zc p).3,D.sl 1 (zc p).4,D.int .i64 (zc p).pl])),[(0,Ob.val 2 (V.d (D.agg [D.sl 3 l,D.int .i64 (up (zo p))])))]) else some (Out.pan (V.d (D.iface 115 (D.agg [D.int .i64 p_5.snd.snd,D.int .i64 (61:Int)]))),[(0,Ob.val 2 (V.d (D.agg [D.sl 3 l,D.int .i64 (zo p)])))]) else some (Out.pan (V.d (D.iface 115 (D.agg [D.int .i64 (yy p),D.int .i64 (xm p)]))),[(0,Ob.val 2 (V.d (D.agg [D.sl 3 l,D.int .i64 (zo p)])))]) else some (Out.pan (V.d (D.iface 115 (D.agg [D.int .i64 p.snd.snd,D.int .i64 (61:Int)]))),[(0,Ob.val 2 (V.d (D.agg [D.sl 3 l,D.int .i64 i])))]):=by kernel_rfl
theorem z5f(n k:Nat)(l:List D)(i v:Int):zx cx (T4 k) n 144 [.ptr 0 0,.d (.int .i64 v)] [(0,.val 2 (.d (.agg [.sl 3 l,.int .i64 i])))]=za (zkk k l i v) λ p=>bif yw p then LP cx (T4 k) n 144 1 2 n [(0,V.ptr 0 0),(1,V.d (D.int .i64 v)),(4,V.ptr 5 0),(5,V.ptr 6 0)] [(0,Ob.val 2 (V.d (D.agg [D.sl 3 l,D.int .i64 (zo p)]))),(5,Ob.val 5 (V.d (D.agg [D.int .i64 (0:Int),D.str [],D.sl 5 [],D.sl 1 [],D.int .i64 (0:Int)]))),(6,Ob.val 5 (V.d (D.agg [D.int .i64 (zc p).k,D.str (zc p).2,D.sl 5 (zc p).3,D.sl 1 (zc p).4,D.int .i64 (zc p).pl])))] (AK cx (T4 k) n 144 1 2 (EK cx 144 1)) else some (Out.pan (V.d (D.iface 115 (D.agg [D.int .i64 (yy p),D.int .i64 (xm p)]))),[(0,Ob.val 2 (V.d (D.agg [D.sl 3 l,D.int .i64 (zo p)])))]):=by kernel_rfl
theorem z5d(n k:Nat)(l:List D)(i v:Int):zx cx (T4 k) n 175 [.ptr 0 0,.d (.int .i64 v)] [(0,.val 2 (.d (.agg [.sl 3 l,.int .i64 i])))]=za (zjj k l i v) λ p=>bif yw p then LP cx (T4 k) n 175 1 2 n [(0,V.ptr 0 0),(1,V.d (D.int .i64 v)),(4,V.ptr 5 0),(5,V.ptr 6 0)] [(0,Ob.val 2 (V.d (D.agg [D.sl 3 l,D.int .i64 (zo p)]))),(5,Ob.val 5 (V.d (D.agg [D.int .i64 (0:Int),D.str [],D.sl 5 [],D.sl 1 [],D.int .i64 (0:Int)]))),(6,Ob.val 5 (V.d (D.agg [D.int .i64 (zc p).k,D.str (zc p).2,D.sl 5 (zc p).3,D.sl 1 (zc p).4,D.int .i64 (zc p).pl])))] (AK cx (T4 k) n 175 1 2 (EK cx 175 1)) else some (Out.pan (V.d (D.iface 115 (D.agg [D.int .i64 (yy p),D.int .i64 (xm p)]))),[(0,Ob.val 2 (V.d (D.agg [D.sl 3 l,D.int .i64 (zo p)])))]):=by kernel_rfl
theorem z5e(n k:Nat)(l:List D)(i:Int):zx cx (T4 k) n 145 [.ptr 0 0] [(0,.val 2 (.d (.agg [.sl 3 l,.int .i64 i])))]=za (zg l i) λ p=>za (zg l i) λ p_1=>bif zr p_1 [49] then some (Out.ret (V.d (D.agg [D.int .i64 (12:Int),D.str [],D.sl 5 [],D.sl 1 [],D.int .i64 p.snd.snd])),[(0,Ob.val 2 (V.d (D.agg [D.sl 3 l,D.int .i64 (IntKind.i64.wrap (i+(1:Int)))])))]) else LP cx (T4 k) n 145 1 5 n [(0,V.ptr 0 0),(2,V.ptr 3 0),(3,V.ptr 4 0)] [(0,Ob.val 2 (V.d (D.agg [D.sl 3 l,D.int .i64 i]))),(3,Ob.val 5 (V.d (D.agg [D.int .i64 (0:Int),D.str [],D.sl 5 [],D.sl 1 [],D.int .i64 (0:Int)]))),(4,Ob.val 5 (V.agg [V.d (D.int .i64 (12:Int)),V.d (D.str []),V.sl 5 [] 10,V.d (D.sl 1 []),V.d (D.int .i64 p.snd.snd)])),(10,Ob.tok 0)] (AK cx (T4 k) n 145 1 5 (EK cx 145 1)):=by kernel_rfl
theorem g81(n k:Nat)(l:List D)(i v:Int):zx cx (T4 k) n 105 [.ptr 0 0,.d (.int .i64 v)] [(0,.val 2 (.d (.agg [.sl 3 l,.int .i64 i])))]=za (zg l i) λ p=>LP cx (T4 k) n 105 1 2 n [(0,V.ptr 0 0),(1,V.d (D.int .i64 v)),(4,V.ptr 5 0),(5,V.ptr 6 0)] [(0,Ob.val 2 (V.d (D.agg [D.sl 3 l,D.int .i64 (up i)]))),(5,Ob.val 5 (V.d (D.agg [D.int .i64 (0:Int),D.str [],D.sl 5 [],D.sl 1 [],D.int .i64 (0:Int)]))),(6,Ob.val 5 (V.agg [V.d (D.int .i64 (10:Int)),V.d (D.str []),V.sl 5 [] 11,V.d (D.sl 1 []),V.d (D.int .i64 p.snd.snd)])),(11,Ob.tok 0)] (AK cx (T4 k) n 105 1 2 (EK cx 105 1)):=by kernel_rfl
theorem g28(n k:Nat)(l:List D)(i:Int):zx cx (T4 k) n 83 [.ptr 0 0] [(0,.val 2 (.d (.agg [.sl 3 l,.int .i64 i])))]=za (zg l i) λ p=>za (zg l i) λ p_1=>bif decide (p_1.fst=1) then za (zg l (up i)) λ p_2=>bif zr p_2 [58] then za (xr k l (up (up i)) (1:Int)) λ p_3=>bif yw p_3 then za (zg l (zo p_3)) λ p_4=>bif zr p_4 [61] then za (xr k l (up (zo p_3)) (1:Int)) λ p_5=>bif yw p_5 then za (zg l (zo p_5)) λ p_6=>bif zr p_6 [59] then some (Out.ret (V.d (D.agg [D.int .i64 (18:Int),D.str p_1.snd.1,D.sl 5 [D.agg [D.int .i64 (zc p_3).k,D.str (zc p_3).2,D.sl 5 (zc p_3).3,D.sl 1 (zc p_3).4,D.int .i64 (zc p_3).pl],D.agg [D.int .i64 (zc p_5).k,D.str (zc p_5).2,D.sl 5 (zc p_5).3,D.sl 1 (zc p_5).4,D.int .i64 (zc p_5).pl]],D.sl 1 [],D.int .i64 p.snd.snd])),[(0,Ob.val 2 (V.d (D.agg [D.sl 3 l,D.int .i64 (up (zo p_5))])))]) else some (Out.pan (V.d (D.iface 115 (D.agg [D.int .i64 p_6.snd.snd,D.int .i64 (61:Int)]))),[(0,Ob.val 2 (V.d (D.agg [D.sl 3 l,D.int .i64 (zo p_5)])))]) else some (Out.pan (V.d (D.iface 115 (D.agg [D.int .i64 (yy p_5),D.int .i64 (xm p_5)]))),[(0,Ob.val 2 (V.d (D.agg [D.sl 3 l,D.int .i64 (zo p_5)])))]) else some (Out.pan (V.d (D.iface 115 (D.agg [D.int .i64 p_4.snd.snd,D.int .i64 (61:Int)]))),[(0,Ob.val 2 (V.d (D.agg [D.sl 3 l,D.int .i64 (zo p_3)])))]) else some (Out.pan (V.d (D.iface 115 (D.agg [D.int .i64 (yy p_3),D.int .i64 (xm p_3)]))),[(0,Ob.val 2 (V.d (D.agg [D.sl 3 l,D.int .i64 (zo p_3)])))]) else some (Out.pan (V.d (D.iface 115 (D.agg [D.int .i64 p_2.snd.snd,D.int .i64 (61:Int)]))),[(0,Ob.val 2 (V.d (D.agg [D.sl 3 l,D.int .i64 (up i)])))]) else some (Out.pan (V.d (D.iface 115 (D.agg [D.int .i64 p_1.snd.snd,D.int .i64 (61:Int)]))),[(0,Ob.val 2 (V.d (D.agg [D.sl 3 l,D.int .i64 i])))]):=by kernel_rfl
theorem g54(n k:Nat)(l:List D)(i v:Int)(t:Tr):zx cx (T4 k) n 74 [.ptr 0 0,.d (.int .i64 v),.d (trD t)] [(0,.val 2 (.d (.agg [.sl 3 l,.int .i64 i])))]=LP cx (T4 k) n 74 1 6 n [(0,V.ptr 0 0),(1,V.d (D.int .i64 v)),(5,V.ptr 6 0),(6,V.ptr 7 0)] [(0,Ob.val 2 (V.d (D.agg [D.sl 3 l,D.int .i64 i]))),(6,Ob.val 5 (V.d (D.agg [D.int .i64 t.k,D.str t.2,D.sl 5 t.3,D.sl 1 t.4,D.int .i64 t.pl]))),(7,Ob.val 5 (V.d (D.agg [D.int .i64 (0:Int),D.str [],D.sl 5 [],D.sl 1 [],D.int .i64 (0:Int)])))] (AK cx (T4 k) n 74 1 6 (EK cx 74 1)):=by kernel_rfl
theorem h49(n k r:Nat)(l ns:List D)(i:Int):LP cx (T4 k) n 69 1 2 (r+1) [(0,V.ptr 0 0),(3,V.sl 1 ns 7)] [(0,Ob.val 2 (V.d (D.agg [D.sl 3 l,D.int .i64 i]))),(7,Ob.tok ns.length)] (AK cx (T4 k) n 69 1 2 (EK cx 69 1))=za (zg l i) λ p=>bif decide (p.fst=(1:Int)) then za (zg l i) λ p=>bif decide (p.fst=1) then zh (decide (ns.length=ns.length)&&decide (ns.length+[D.str p.snd.1].length≤4294967296)) (LP cx (T4 k) n 69 1 2 r [(0,V.ptr 0 0),(3,V.sl 1 (ns++[D.str p.snd.1]) 7)] [(0,Ob.val 2 (V.d (D.agg [D.sl 3 l,D.int .i64 (up i)]))),(7,Ob.tok (ns.length+[D.str p.snd.1].length))] (AK cx (T4 k) n 69 1 2 (EK cx 69 1))) else some (Out.pan (V.d (D.iface 115 (D.agg [D.int .i64 p.snd.snd,D.int .i64 (61:Int)]))),[(0,Ob.val 2 (V.d (D.agg [D.sl 3 l,D.int .i64 i])))]) else some (Out.ret (V.d (D.sl 1 ns)),[(0,Ob.val 2 (V.d (D.agg [D.sl 3 l,D.int .i64 i])))]):=by kernel_rfl
theorem z5a(n k r:Nat)(l:List D)(i v:Int)(t u:Tr):LP cx (T4 k) n 144 1 2 (r+1) [(0,V.ptr 0 0),(1,V.d (D.int .i64 v)),(4,V.ptr 5 0),(5,V.ptr 6 0)] [(0,Ob.val 2 (V.d (D.agg [D.sl 3 l,D.int .i64 i]))),(5,Ob.val 5 (V.d (trD u))),(6,Ob.val 5 (V.d (trD t)))] (AK cx (T4 k) n 144 1 2 (EK cx 144 1))=za (zg l i) λ p=>bif zr p [92,47] then za (zkk k l (IntKind.i64.wrap (i+(1:Int))) v) λ p=>bif yw p then LP cx (T4 k) n 144 1 2 r [(0,V.ptr 0 0),(1,V.d (D.int .i64 v)),(4,V.ptr 5 0),(5,V.ptr 6 0)] [(0,Ob.val 2 (V.d (D.agg [D.sl 3 l,D.int .i64 (zo p)]))),(5,Ob.val 5 (V.d (D.agg [D.int .i64 u.k,D.str u.2,D.sl 5 u.3,D.sl 1 u.4,D.int .i64 u.pl]))),(6,Ob.val 5 (V.d (D.agg [D.int .i64 (14:Int),D.str [],D.sl 5 [D.agg [D.int .i64 t.k,D.str t.2,D.sl 5 t.3,D.sl 1 t.4,D.int .i64 t.pl],D.agg [D.int .i64 (zc p).k,D.str (zc p).2,D.sl 5 (zc p).3,D.sl 1 (zc p).4,D.int .i64 (zc p).pl]],D.sl 1 [],D.int .i64 t.pl])))] (AK cx (T4 k) n 144 1 2 (EK cx 144 1)) else some (Out.pan (V.d (D.iface 115 (D.agg [D.int .i64 (yy p),D.int .i64 (xm p)]))),[(0,Ob.val 2 (V.d (D.agg [D.sl 3 l,D.int .i64 (zo p)])))]) else some (Out.ret (V.d (D.agg [D.int .i64 t.k,D.str t.2,D.sl 5 t.3,D.sl 1 t.4,D.int .i64 t.pl])),[(0,Ob.val 2 (V.d (D.agg [D.sl 3 l,D.int .i64 i])))]):=by kernel_rfl
theorem z48(n k r:Nat)(l:List D)(i v:Int)(t u:Tr):LP cx (T4 k) n 175 1 2 (r+1) [(0,V.ptr 0 0),(1,V.d (D.int .i64 v)),(4,V.ptr 5 0),(5,V.ptr 6 0)] [(0,Ob.val 2 (V.d (D.agg [D.sl 3 l,D.int .i64 i]))),(5,Ob.val 5 (V.d (trD u))),(6,Ob.val 5 (V.d (trD t)))] (AK cx (T4 k) n 175 1 2 (EK cx 175 1))=za (zg l i) λ p=>bif zr p [47,92] then za (zjj k l (IntKind.i64.wrap (i+(1:Int))) v) λ p=>bif yw p then LP cx (T4 k) n 175 1 2 r [(0,V.ptr 0 0),(1,V.d (D.int .i64 v)),(4,V.ptr 5 0),(5,V.ptr 6 0)] [(0,Ob.val 2 (V.d (D.agg [D.sl 3 l,D.int .i64 (zo p)]))),(5,Ob.val 5 (V.d (D.agg [D.int .i64 u.k,D.str u.2,D.sl 5 u.3,D.sl 1 u.4,D.int .i64 u.pl]))),(6,Ob.val 5 (V.d (D.agg [D.int .i64 (15:Int),D.str [],D.sl 5 [D.agg [D.int .i64 t.k,D.str t.2,D.sl 5 t.3,D.sl 1 t.4,D.int .i64 t.pl],D.agg [D.int .i64 (zc p).k,D.str (zc p).2,D.sl 5 (zc p).3,D.sl 1 (zc p).4,D.int .i64 (zc p).pl]],D.sl 1 [],D.int .i64 t.pl])))] (AK cx (T4 k) n 175 1 2 (EK cx 175 1)) else some (Out.pan (V.d (D.iface 115 (D.agg [D.int .i64 (yy p),D.int .i64 (xm p)]))),[(0,Ob.val 2 (V.d (D.agg [D.sl 3 l,D.int .i64 (zo p)])))]) else some (Out.ret (V.d (D.agg [D.int .i64 t.k,D.str t.2,D.sl 5 t.3,D.sl 1 t.4,D.int .i64 t.pl])),[(0,Ob.val 2 (V.d (D.agg [D.sl 3 l,D.int .i64 i])))]):=by kernel_rfl
theorem h54(n k r:Nat)(l:List D)(i v:Int)(t u:Tr):LP cx (T4 k) n 74 1 6 (r+1) [(0,V.ptr 0 0),(1,V.d (D.int .i64 v)),(5,V.ptr 6 0),(6,V.ptr 7 0)] [(0,Ob.val 2 (V.d (D.agg [D.sl 3 l,D.int .i64 i]))),(6,Ob.val 5 (V.d (trD t))),(7,Ob.val 5 (V.d (trD u)))] (AK cx (T4 k) n 74 1 6 (EK cx 74 1))=za (zg l i) λ p=>bif zr p [64] then za (zjj k l (IntKind.i64.wrap (i+(1:Int))) (IntKind.i64.wrap (v+(1:Int)))) λ p=>bif yw p then LP cx (T4 k) n 74 1 6 r [(0,V.ptr 0 0),(1,V.d (D.int .i64 v)),(5,V.ptr 6 0),(6,V.ptr 7 0)] [(0,Ob.val 2 (V.d (D.agg [D.sl 3 l,D.int .i64 (zo p)]))),(6,Ob.val 5 (V.d (D.agg [D.int .i64 (7:Int),D.str [],D.sl 5 [D.agg [D.int .i64 t.k,D.str t.2,D.sl 5 t.3,D.sl 1 t.4,D.int .i64 t.pl],D.agg [D.int .i64 (zc p).k,D.str (zc p).2,D.sl 5 (zc p).3,D.sl 1 (zc p).4,D.int .i64 (zc p).pl]],D.sl 1 [],D.int .i64 t.pl]))),(7,Ob.val 5 (V.d (D.agg [D.int .i64 u.k,D.str u.2,D.sl 5 u.3,D.sl 1 u.4,D.int .i64 u.pl])))] (AK cx (T4 k) n 74 1 6 (EK cx 74 1)) else some (Out.pan (V.d (D.iface 115 (D.agg [D.int .i64 (yy p),D.int .i64 (xm p)]))),[(0,Ob.val 2 (V.d (D.agg [D.sl 3 l,D.int .i64 (zo p)])))]) else za (zg l i) λ p=>bif decide (p.fst=(1:Int)) then za (zgk k l i v) λ p=>bif yw p then LP cx (T4 k) n 74 1 6 r [(0,V.ptr 0 0),(1,V.d (D.int .i64 v)),(5,V.ptr 6 0),(6,V.ptr 7 0)] [(0,Ob.val 2 (V.d (D.agg [D.sl 3 l,D.int .i64 (zo p)]))),(6,Ob.val 5 (V.d (D.agg [D.int .i64 (6:Int),D.str [],D.sl 5 [D.agg [D.int .i64 t.k,D.str t.2,D.sl 5 t.3,D.sl 1 t.4,D.int .i64 t.pl],D.agg [D.int .i64 (zc p).k,D.str (zc p).2,D.sl 5 (zc p).3,D.sl 1 (zc p).4,D.int .i64 (zc p).pl]],D.sl 1 [],D.int .i64 t.pl]))),(7,Ob.val 5 (V.d (D.agg [D.int .i64 u.k,D.str u.2,D.sl 5 u.3,D.sl 1 u.4,D.int .i64 u.pl])))] (AK cx (T4 k) n 74 1 6 (EK cx 74 1)) else some (Out.pan (V.d (D.iface 115 (D.agg [D.int .i64 (yy p),D.int .i64 (xm p)]))),[(0,Ob.val 2 (V.d (D.agg [D.sl 3 l,D.int .i64 (zo p)])))]) else za (zg l i) λ p=>bif zr p [40] then za (zgk k l i v) λ p=>bif yw p then LP cx (T4 k) n 74 1 6 r [(0,V.ptr 0 0),(1,V.d (D.int .i64 v)),(5,V.ptr 6 0),(6,V.ptr 7 0)] [(0,Ob.val 2 (V.d (D.agg [D.sl 3 l,D.int .i64 (zo p)]))),(6,Ob.val 5 (V.d (D.agg [D.int .i64 (6:Int),D.str [],D.sl 5 [D.agg [D.int .i64 t.k,D.str t.2,D.sl 5 t.3,D.sl 1 t.4,D.int .i64 t.pl],D.agg [D.int .i64 (zc p).k,D.str (zc p).2,D.sl 5 (zc p).3,D.sl 1 (zc p).4,D.int .i64 (zc p).pl]],D.sl 1 [],D.int .i64 t.pl]))),(7,Ob.val 5 (V.d (D.agg [D.int .i64 u.k,D.str u.2,D.sl 5 u.3,D.sl 1 u.4,D.int .i64 u.pl])))] (AK cx (T4 k) n 74 1 6 (EK cx 74 1)) else some (Out.pan (V.d (D.iface 115 (D.agg [D.int .i64 (yy p),D.int .i64 (xm p)]))),[(0,Ob.val 2 (V.d (D.agg [D.sl 3 l,D.int .i64 (zo p)])))]) else za (zg l i) λ p=>bif zr p [91] then za (zgk k l i v) λ p=>bif yw p then LP cx (T4 k) n 74 1 6 r [(0,V.ptr 0 0),(1,V.d (D.int .i64 v)),(5,V.ptr 6 0),(6,V.ptr 7 0)] [(0,Ob.val 2 (V.d (D.agg [D.sl 3 l,D.int .i64 (zo p)]))),(6,Ob.val 5 (V.d (D.agg [D.int .i64 (6:Int),D.str [],D.sl 5 [D.agg [D.int .i64 t.k,D.str t.2,D.sl 5 t.3,D.sl 1 t.4,D.int .i64 t.pl],D.agg [D.int .i64 (zc p).k,D.str (zc p).2,D.sl 5 (zc p).3,D.sl 1 (zc p).4,D.int .i64 (zc p).pl]],D.sl 1 [],D.int .i64 t.pl]))),(7,Ob.val 5 (V.d (D.agg [D.int .i64 u.k,D.str u.2,D.sl 5 u.3,D.sl 1 u.4,D.int .i64 u.pl])))] (AK cx (T4 k) n 74 1 6 (EK cx 74 1)) else some (Out.pan (V.d (D.iface 115 (D.agg [D.int .i64 (yy p),D.int .i64 (xm p)]))),[(0,Ob.val 2 (V.d (D.agg [D.sl 3 l,D.int .i64 (zo p)])))]) else za (zg l i) λ p=>bif !decide (zbc p=(0:Int)) then za (xr k l (IntKind.i64.wrap (i+(1:Int))) (IntKind.i64.wrap (v+(1:Int)))) λ p_1=>bif yw p_1 then some (Out.ret (V.d (D.agg [D.int .i64 (zbc p),D.str [],D.sl 5 [D.agg [D.int .i64 t.k,D.str t.2,D.sl 5 t.3,D.sl 1 t.4,D.int .i64 t.pl],D.agg [D.int .i64 (zc p_1).k,D.str (zc p_1).2,D.sl 5 (zc p_1).3,D.sl 1 (zc p_1).4,D.int .i64 (zc p_1).pl]],D.sl 1 [],D.int .i64 t.pl])),[(0,Ob.val 2 (V.d (D.agg [D.sl 3 l,D.int .i64 (zo p_1)])))]) else some (Out.pan (V.d (D.iface 115 (D.agg [D.int .i64 (yy p_1),D.int .i64 (xm p_1)]))),[(0,Ob.val 2 (V.d (D.agg [D.sl 3 l,D.int .i64 (zo p_1)])))]) else some (Out.ret (V.d (D.agg [D.int .i64 t.k,D.str t.2,D.sl 5 t.3,D.sl 1 t.4,D.int .i64 t.pl])),[(0,Ob.val 2 (V.d (D.agg [D.sl 3 l,D.int .i64 i])))]):=by kernel_rfl
theorem z49(n k r:Nat)(l kids:List D)(i a:Int)(u:Tr):LP cx (T4 k) n 145 1 5 (r+1) [(0,V.ptr 0 0),(2,V.ptr 3 0),(3,V.ptr 4 0)] [(0,Ob.val 2 (V.d (D.agg [D.sl 3 l,D.int .i64 i]))),(3,Ob.val 5 (V.d (trD u))),(4,Ob.val 5 (V.agg [V.d (D.int .i64 (12:Int)),V.d (D.str []),V.sl 5 kids 10,V.d (D.sl 1 []),V.d (D.int .i64 a)])),(10,Ob.tok kids.length)] (AK cx (T4 k) n 145 1 5 (EK cx 145 1))=za (zg l i) λ p=>za (zg l i) λ p_1=>bif zr p_1 [40] then za (zg l (up i)) λ p_2=>bif decide (p_2.fst=1) then za (zg l (up (up i))) λ p_3=>bif zr p_3 [61] then za (zg l (up (up (up i)))) λ p_4=>bif !zr p_4 [48] then za (zg l (up (up (up i)))) λ p_5=>bif !zr p_5 [49] then za (zg l (up (up (up i)))) λ p=>some (Out.pan (V.d (D.iface 115 (D.agg [D.int .i64 p.snd.snd,D.int .i64 (61:Int)]))),[(0,Ob.val 2 (V.d (D.agg [D.sl 3 l,D.int .i64 (up (up (up i)))])))]) else za (zg l (up (up (up i)))) λ p_6=>za (zg l (up (up (up (up i))))) λ p_7=>bif zr p_7 [41] then zh (decide (kids.length=kids.length)&&decide (kids.length+[D.agg [D.int .i64 (13:Int),D.str p_2.snd.1,D.sl 5 [],D.sl 1 [D.str p_6.snd.1],D.int .i64 p.snd.snd]].length≤4294967296)) (za (zg l (up (up (up (up (up i)))))) λ p_8=>bif !zr p_8 [40] then some (Out.ret (V.d (D.agg [D.int .i64 (12:Int),D.str [],D.sl 5 (kids++[D.agg [D.int .i64 (13:Int),D.str p_2.snd.1,D.sl 5 [],D.sl 1 [D.str p_6.snd.1],D.int .i64 p.snd.snd]]),D.sl 1 [],D.int .i64 a])),[(0,Ob.val 2 (V.d (D.agg [D.sl 3 l,D.int .i64 (up (up (up (up (up i)))))])))]) else LP cx (T4 k) n 145 1 5 r [(0,V.ptr 0 0),(2,V.ptr 3 0),(3,V.ptr 4 0)] [(0,Ob.val 2 (V.d (D.agg [D.sl 3 l,D.int .i64 (up (up (up (up (up i)))))]))),(3,Ob.val 5 (V.d (D.agg [D.int .i64 u.k,D.str u.2,D.sl 5 u.3,D.sl 1 u.4,D.int .i64 u.pl]))),(4,Ob.val 5 (V.agg [V.d (D.int .i64 (12:Int)),V.d (D.str []),V.sl 5 (kids++[D.agg [D.int .i64 (13:Int),D.str p_2.snd.1,D.sl 5 [],D.sl 1 [D.str p_6.snd.1],D.int .i64 p.snd.snd]]) 10,V.d (D.sl 1 []),V.d (D.int .i64 a)])),(10,Ob.tok (kids.length+[D.agg [D.int .i64 (13:Int),D.str p_2.snd.1,D.sl 5 [],D.sl 1 [D.str p_6.snd.1],D.int .i64 p.snd.snd]].length))] (AK cx (T4 k) n 145 1 5 (EK cx 145 1))) else some (Out.pan (V.d (D.iface 115 (D.agg [D.int .i64 p_7.snd.snd,D.int .i64 (61:Int)]))),[(0,Ob.val 2 (V.d (D.agg [D.sl 3 l,D.int .i64 (up (up (up (up i))))])))]) else za (zg l (up (up (up i)))) λ p_5=>za (zg l (up (up (up (up i))))) λ p_6=>bif zr p_6 [41] then zh (decide (kids.length=kids.length)&&decide (kids.length+[D.agg [D.int .i64 (13:Int),D.str p_2.snd.1,D.sl 5 [],D.sl 1 [D.str p_5.snd.1],D.int .i64 p.snd.snd]].length≤4294967296)) (za (zg l (up (up (up (up (up i)))))) λ p_7=>bif !zr p_7 [40] then some (Out.ret (V.d (D.agg [D.int .i64 (12:Int),D.str [],D.sl 5 (kids++[D.agg [D.int .i64 (13:Int),D.str p_2.snd.1,D.sl 5 [],D.sl 1 [D.str p_5.snd.1],D.int .i64 p.snd.snd]]),D.sl 1 [],D.int .i64 a])),[(0,Ob.val 2 (V.d (D.agg [D.sl 3 l,D.int .i64 (up (up (up (up (up i)))))])))]) else LP cx (T4 k) n 145 1 5 r [(0,V.ptr 0 0),(2,V.ptr 3 0),(3,V.ptr 4 0)] [(0,Ob.val 2 (V.d (D.agg [D.sl 3 l,D.int .i64 (up (up (up (up (up i)))))]))),(3,Ob.val 5 (V.d (D.agg [D.int .i64 u.k,D.str u.2,D.sl 5 u.3,D.sl 1 u.4,D.int .i64 u.pl]))),(4,Ob.val 5 (V.agg [V.d (D.int .i64 (12:Int)),V.d (D.str []),V.sl 5 (kids++[D.agg [D.int .i64 (13:Int),D.str p_2.snd.1,D.sl 5 [],D.sl 1 [D.str p_5.snd.1],D.int .i64 p.snd.snd]]) 10,V.d (D.sl 1 []),V.d (D.int .i64 a)])),(10,Ob.tok (kids.length+[D.agg [D.int .i64 (13:Int),D.str p_2.snd.1,D.sl 5 [],D.sl 1 [D.str p_5.snd.1],D.int .i64 p.snd.snd]].length))] (AK cx (T4 k) n 145 1 5 (EK cx 145 1))) else some (Out.pan (V.d (D.iface 115 (D.agg [D.int .i64 p_6.snd.snd,D.int .i64 (61:Int)]))),[(0,Ob.val 2 (V.d (D.agg [D.sl 3 l,D.int .i64 (up (up (up (up i))))])))]) else some (Out.pan (V.d (D.iface 115 (D.agg [D.int .i64 p_3.snd.snd,D.int .i64 (61:Int)]))),[(0,Ob.val 2 (V.d (D.agg [D.sl 3 l,D.int .i64 (up (up i))])))]) else some (Out.pan (V.d (D.iface 115 (D.agg [D.int .i64 p_2.snd.snd,D.int .i64 (61:Int)]))),[(0,Ob.val 2 (V.d (D.agg [D.sl 3 l,D.int .i64 (up i)])))]) else some (Out.pan (V.d (D.iface 115 (D.agg [D.int .i64 p_1.snd.snd,D.int .i64 (61:Int)]))),[(0,Ob.val 2 (V.d (D.agg [D.sl 3 l,D.int .i64 i])))]):=by kernel_rfl
theorem h81(n k r:Nat)(l kids:List D)(i v a:Int)(u:Tr):LP cx (T4 k) n 105 1 2 (r+1) [(0,V.ptr 0 0),(1,V.d (D.int .i64 v)),(4,V.ptr 5 0),(5,V.ptr 6 0)] [(0,Ob.val 2 (V.d (D.agg [D.sl 3 l,D.int .i64 i]))),(5,Ob.val 5 (V.d (trD u))),(6,Ob.val 5 (V.agg [V.d (D.int .i64 (10:Int)),V.d (D.str []),V.sl 5 kids 11,V.d (D.sl 1 []),V.d (D.int .i64 a)])),(11,Ob.tok kids.length)] (AK cx (T4 k) n 105 1 2 (EK cx 105 1))=za (zg l i) λ p=>bif !zr p [93] then bif decide ((0:Int)<(↑kids.length:Int)) then za (zg l i) λ p=>bif zr p [44] then za (zg l (up i)) λ p=>za (zkl k l (up i)) λ p_1=>bif yw p_1 then za (zg l (zo p_1)) λ p_2=>bif zr p_2 [45,62] then za (xr k l (IntKind.i64.wrap (zo p_1+(1:Int))) (IntKind.i64.wrap (v+(1:Int)))) λ p_3=>bif yw p_3 then zh (decide (kids.length=kids.length)&&decide (kids.length+[D.agg [D.int .i64 (11:Int),D.str [],D.sl 5 [D.agg [D.int .i64 (zc p_1).k,D.str (zc p_1).2,D.sl 5 (zc p_1).3,D.sl 1 (zc p_1).4,D.int .i64 (zc p_1).pl],D.agg [D.int .i64 (zc p_3).k,D.str (zc p_3).2,D.sl 5 (zc p_3).3,D.sl 1 (zc p_3).4,D.int .i64 (zc p_3).pl]],D.sl 1 [],D.int .i64 p.snd.snd]].length≤4294967296)) (LP cx (T4 k) n 105 1 2 r [(0,V.ptr 0 0),(1,V.d (D.int .i64 v)),(4,V.ptr 5 0),(5,V.ptr 6 0)] [(0,Ob.val 2 (V.d (D.agg [D.sl 3 l,D.int .i64 (zo p_3)]))),(5,Ob.val 5 (V.d (D.agg [D.int .i64 u.k,D.str u.2,D.sl 5 u.3,D.sl 1 u.4,D.int .i64 u.pl]))),(6,Ob.val 5 (V.agg [V.d (D.int .i64 (10:Int)),V.d (D.str []),V.sl 5 (kids++[D.agg [D.int .i64 (11:Int),D.str [],D.sl 5 [D.agg [D.int .i64 (zc p_1).k,D.str (zc p_1).2,D.sl 5 (zc p_1).3,D.sl 1 (zc p_1).4,D.int .i64 (zc p_1).pl],D.agg [D.int .i64 (zc p_3).k,D.str (zc p_3).2,D.sl 5 (zc p_3).3,D.sl 1 (zc p_3).4,D.int .i64 (zc p_3).pl]],D.sl 1 [],D.int .i64 p.snd.snd]]) 11,V.d (D.sl 1 []),V.d (D.int .i64 a)])),(11,Ob.tok (kids.length+[D.agg [D.int .i64 (11:Int),D.str [],D.sl 5 [D.agg [D.int .i64 (zc p_1).k,D.str (zc p_1).2,D.sl 5 (zc p_1).3,D.sl 1 (zc p_1).4,D.int .i64 (zc p_1).pl],D.agg [D.int .i64 (zc p_3).k,D.str (zc p_3).2,D.sl 5 (zc p_3).3,D.sl 1 (zc p_3).4,D.int .i64 (zc p_3).pl]],D.sl 1 [],D.int .i64 p.snd.snd]].length))] (AK cx (T4 k) n 105 1 2 (EK cx 105 1))) else some (Out.pan (V.d (D.iface 115 (D.agg [D.int .i64 (yy p_3),D.int .i64 (xm p_3)]))),[(0,Ob.val 2 (V.d (D.agg [D.sl 3 l,D.int .i64 (zo p_3)])))]) else zh (decide (kids.length=kids.length)&&decide (kids.length+[D.agg [D.int .i64 (11:Int),D.str [],D.sl 5 [D.agg [D.int .i64 (zc p_1).k,D.str (zc p_1).2,D.sl 5 (zc p_1).3,D.sl 1 (zc p_1).4,D.int .i64 (zc p_1).pl]],D.sl 1 [],D.int .i64 p.snd.snd]].length≤4294967296)) (LP cx (T4 k) n 105 1 2 r [(0,V.ptr 0 0),(1,V.d (D.int .i64 v)),(4,V.ptr 5 0),(5,V.ptr 6 0)] [(0,Ob.val 2 (V.d (D.agg [D.sl 3 l,D.int .i64 (zo p_1)]))),(5,Ob.val 5 (V.d (D.agg [D.int .i64 u.k,D.str u.2,D.sl 5 u.3,D.sl 1 u.4,D.int .i64 u.pl]))),(6,Ob.val 5 (V.agg [V.d (D.int .i64 (10:Int)),V.d (D.str []),V.sl 5 (kids++[D.agg [D.int .i64 (11:Int),D.str [],D.sl 5 [D.agg [D.int .i64 (zc p_1).k,D.str (zc p_1).2,D.sl 5 (zc p_1).3,D.sl 1 (zc p_1).4,D.int .i64 (zc p_1).pl]],D.sl 1 [],D.int .i64 p.snd.snd]]) 11,V.d (D.sl 1 []),V.d (D.int .i64 a)])),(11,Ob.tok (kids.length+[D.agg [D.int .i64 (11:Int),D.str [],D.sl 5 [D.agg [D.int .i64 (zc p_1).k,D.str (zc p_1).2,D.sl 5 (zc p_1).3,D.sl 1 (zc p_1).4,D.int .i64 (zc p_1).pl]],D.sl 1 [],D.int .i64 p.snd.snd]].length))] (AK cx (T4 k) n 105 1 2 (EK cx 105 1))) else some (Out.pan (V.d (D.iface 115 (D.agg [D.int .i64 (yy p_1),D.int .i64 (xm p_1)]))),[(0,Ob.val 2 (V.d (D.agg [D.sl 3 l,D.int .i64 (zo p_1)])))]) else some (Out.pan (V.d (D.iface 115 (D.agg [D.int .i64 p.snd.snd,D.int .i64 (61:Int)]))),[(0,Ob.val 2 (V.d (D.agg [D.sl 3 l,D.int .i64 i])))]) else za (zg l i) λ p=>za (zkl k l i) λ p_1=>bif yw p_1 then za (zg l (zo p_1)) λ p_2=>bif zr p_2 [45,62] then za (xr k l (IntKind.i64.wrap (zo p_1+(1:Int))) (IntKind.i64.wrap (v+(1:Int)))) λ p_3=>bif yw p_3 then zh (decide (kids.length=kids.length)&&decide (kids.length+[D.agg [D.int .i64 (11:Int),D.str [],D.sl 5 [D.agg [D.int .i64 (zc p_1).k,D.str (zc p_1).2,D.sl 5 (zc p_1).3,D.sl 1 (zc p_1).4,D.int .i64 (zc p_1).pl],D.agg [D.int .i64 (zc p_3).k,D.str (zc p_3).2,D.sl 5 (zc p_3).3,D.sl 1 (zc p_3).4,D.int .i64 (zc p_3).pl]],D.sl 1 [],D.int .i64 p.snd.snd]].length≤4294967296)) (LP cx (T4 k) n 105 1 2 r [(0,V.ptr 0 0),(1,V.d (D.int .i64 v)),(4,V.ptr 5 0),(5,V.ptr 6 0)] [(0,Ob.val 2 (V.d (D.agg [D.sl 3 l,D.int .i64 (zo p_3)]))),(5,Ob.val 5 (V.d (D.agg [D.int .i64 u.k,D.str u.2,D.sl 5 u.3,D.sl 1 u.4,D.int .i64 u.pl]))),(6,Ob.val 5 (V.agg [V.d (D.int .i64 (10:Int)),V.d (D.str []),V.sl 5 (kids++[D.agg [D.int .i64 (11:Int),D.str [],D.sl 5 [D.agg [D.int .i64 (zc p_1).k,D.str (zc p_1).2,D.sl 5 (zc p_1).3,D.sl 1 (zc p_1).4,D.int .i64 (zc p_1).pl],D.agg [D.int .i64 (zc p_3).k,D.str (zc p_3).2,D.sl 5 (zc p_3).3,D.sl 1 (zc p_3).4,D.int .i64 (zc p_3).pl]],D.sl 1 [],D.int .i64 p.snd.snd]]) 11,V.d (D.sl 1 []),V.d (D.int .i64 a)])),(11,Ob.tok (kids.length+[D.agg [D.int .i64 (11:Int),D.str [],D.sl 5 [D.agg [D.int .i64 (zc p_1).k,D.str (zc p_1).2,D.sl 5 (zc p_1).3,D.sl 1 (zc p_1).4,D.int .i64 (zc p_1).pl],D.agg [D.int .i64 (zc p_3).k,D.str (zc p_3).2,D.sl 5 (zc p_3).3,D.sl 1 (zc p_3).4,D.int .i64 (zc p_3).pl]],D.sl 1 [],D.int .i64 p.snd.snd]].length))] (AK cx (T4 k) n 105 1 2 (EK cx 105 1))) else some (Out.pan (V.d (D.iface 115 (D.agg [D.int .i64 (yy p_3),D.int .i64 (xm p_3)]))),[(0,Ob.val 2 (V.d (D.agg [D.sl 3 l,D.int .i64 (zo p_3)])))]) else zh (decide (kids.length=kids.length)&&decide (kids.length+[D.agg [D.int .i64 (11:Int),D.str [],D.sl 5 [D.agg [D.int .i64 (zc p_1).k,D.str (zc p_1).2,D.sl 5 (zc p_1).3,D.sl 1 (zc p_1).4,D.int .i64 (zc p_1).pl]],D.sl 1 [],D.int .i64 p.snd.snd]].length≤4294967296)) (LP cx (T4 k) n 105 1 2 r [(0,V.ptr 0 0),(1,V.d (D.int .i64 v)),(4,V.ptr 5 0),(5,V.ptr 6 0)] [(0,Ob.val 2 (V.d (D.agg [D.sl 3 l,D.int .i64 (zo p_1)]))),(5,Ob.val 5 (V.d (D.agg [D.int .i64 u.k,D.str u.2,D.sl 5 u.3,D.sl 1 u.4,D.int .i64 u.pl]))),(6,Ob.val 5 (V.agg [V.d (D.int .i64 (10:Int)),V.d (D.str []),V.sl 5 (kids++[D.agg [D.int .i64 (11:Int),D.str [],D.sl 5 [D.agg [D.int .i64 (zc p_1).k,D.str (zc p_1).2,D.sl 5 (zc p_1).3,D.sl 1 (zc p_1).4,D.int .i64 (zc p_1).pl]],D.sl 1 [],D.int .i64 p.snd.snd]]) 11,V.d (D.sl 1 []),V.d (D.int .i64 a)])),(11,Ob.tok (kids.length+[D.agg [D.int .i64 (11:Int),D.str [],D.sl 5 [D.agg [D.int .i64 (zc p_1).k,D.str (zc p_1).2,D.sl 5 (zc p_1).3,D.sl 1 (zc p_1).4,D.int .i64 (zc p_1).pl]],D.sl 1 [],D.int .i64 p.snd.snd]].length))] (AK cx (T4 k) n 105 1 2 (EK cx 105 1))) else some (Out.pan (V.d (D.iface 115 (D.agg [D.int .i64 (yy p_1),D.int .i64 (xm p_1)]))),[(0,Ob.val 2 (V.d (D.agg [D.sl 3 l,D.int .i64 (zo p_1)])))]) else some (Out.ret (V.d (D.agg [D.int .i64 (10:Int),D.str [],D.sl 5 kids,D.sl 1 [],D.int .i64 a])),[(0,Ob.val 2 (V.d (D.agg [D.sl 3 l,D.int .i64 (IntKind.i64.wrap (i+(1:Int)))])))]):=by kernel_rfl
theorem g55(n:Nat)(l:List D)(k a:Int):zx cx T3 n 75 [.d (.int .i64 k),.d (.int .i64 a),.d (.sl 5 l)] []=some (Out.ret (V.d (D.agg [D.int .i64 k,D.str [],D.sl 5 l,D.sl 1 [],D.int .i64 a])),[]):=by kernel_rfl
theorem z5b(n m:Nat)(l:List D)(k a:Int):zx cx T3 n 75 [.d (.int .i64 k),.d (.int .i64 a),.sl 5 l 0] [(0,.tok m)]=some (Out.ret (V.agg [V.d (D.int .i64 k),V.d (D.str []),V.sl 5 l 0,V.d (D.sl 1 []),V.d (D.int .i64 a)]),[(0,Ob.tok m)]):=by kernel_rfl
theorem y0{α R:Type}{o:Option α}{F G:α→Option R}(h:∀ x,o=some x→F x=G x):za o F=za o G:=by
 cases o with
 | none=>rfl
 | some x=>exact h x rfl
theorem zi{α R:Type}{x:α}{F:α→Option R}:za (some x) F=F x:=rfl
theorem xk{R:Type}{c:Bool}{a b a' b':Option R}(h:c=true→a=a')(h':c=false→b=b'):(bif c then a else b)=bif c then a' else b':=by
 cases c
 ·exact h' rfl
 ·exact h rfl
theorem xb{R:Type}{c:Bool}{a a':Option R}(h:a=a'):zh c a=zh c a':=by rw [h]
theorem zbf{R:Type}{c:Bool}{a b:Option R}:(bif !c then a else b)=bif c then b else a:=by cases c <;> rfl
theorem zhe{R:Type}{c d:Bool}{a b:Option R}:(bif c||d then a else b)=bif c then a else bif d then a else b:=by cases c <;> rfl
theorem x0(l:List D)(x:D):decide (l.length+[x].length≤4294967296)=v7 l:=by
 unfold v7;simp only [List.length_singleton];exact decide_eq_decide.2 (by omega)
theorem vk(k:Nat)(l:List D)(i:Int):(z7 k).names l i=zij k l i:=rfl
theorem zaf(k:Nat)(l:List D)(i:Int):(z7 k).face l i=zkl k l i:=rfl
theorem zac(k:Nat)(l:List D)(i v:Int):(z7 k).term l i v=xr k l i v:=rfl
theorem vl(k:Nat)(l:List D)(i v:Int)(t:Tr):(z7 k).after l i v t=zio k l i v t:=rfl
theorem zag(k:Nat)(l:List D)(i v:Int):(z7 k).atom l i v=zgk k l i v:=rfl
theorem zcp(k:Nat)(l:List D)(i v:Int):(z7 k).box l i v=zt1 k l i v:=rfl
theorem zae(k:Nat)(l:List D)(i v:Int):(z7 k).join l i v=zqd k l i v:=rfl
theorem zad(k:Nat)(l:List D)(i v:Int):(z7 k).meet l i v=zkk k l i v:=rfl
theorem zco(k:Nat)(l:List D)(i v:Int):(z7 k).dim l i v=zjj k l i v:=rfl
theorem s25(n k:Nat)(l:List D)(i v:Int):zx cx (T4 k) n 41 [.ptr 0 0,.d (.int .i64 v)] (x1 l i)=vg (zfz (z7 k) l i v) λ o j=>some (o,x1 l j):=by
 rw [g25];unfold vg zfz zim wd yv;simp only [zq,zz,zj,zi,vk,zaf,zac,vl,zag,zcp,zae,zad,zco,zbf,zhe,decide_true,Bool.true_and,x0];cases hp:zg l i with
 | none=>first | rfl | (simp only [za]; done) | (simp only [za]; cases decide (200<v) <;> rfl)
 | some p=>
  simp only [hp,zi];repeat' (first | (with_reducible refine y0 λ x hx=>?_; try simp only [hx,zi]) | (with_reducible refine xk (λ h=>?_) (λ h=>?_) <;> try simp only [h,p5,p6,zi]) | (with_reducible refine xb ?_) | rfl)
theorem s56(n k:Nat)(l:List D)(i v:Int):zx cx (T4 k) n 76 [.ptr 0 0,.d (.int .i64 v)] (x1 l i)=vg (zf5 (z7 k) l i v) λ o j=>some (o,x1 l j):=by
 rw [g56];unfold vg zf5 wd yv;simp only [zq,zz,zj,zi,vk,zaf,zac,vl,zag,zcp,zae,zad,zco,zbf,zhe,decide_true,Bool.true_and,x0];cases hp:zg l i with
 | none=>first | rfl | (simp only [za]; done) | (simp only [za]; cases decide (200<v) <;> rfl)
 | some p=>
  simp only [hp,zi];repeat' (first | (with_reducible refine y0 λ x hx=>?_; try simp only [hx,zi]) | (with_reducible refine xk (λ h=>?_) (λ h=>?_) <;> try simp only [h,p5,p6,zi]) | (with_reducible refine xb ?_) | rfl)
theorem s80(n k:Nat)(l:List D)(i v:Int):zx cx (T4 k) n 104 [.ptr 0 0,.d (.int .i64 v)] (x1 l i)=vg (zil (z7 k) l i v) λ o j=>some (o,x1 l j):=by
 rw [g80];unfold vg zil wd yv;simp only [zq,zz,zj,zi,vk,zaf,zac,vl,zag,zcp,zae,zad,zco,zbf,zhe,decide_true,Bool.true_and,x0];cases hp:zg l i with
 | none=>first | rfl | (simp only [za]; done) | (simp only [za]; cases decide (200<v) <;> rfl)
 | some p=>
  simp only [hp,zi];repeat' (first | (with_reducible refine y0 λ x hx=>?_; try simp only [hx,zi]) | (with_reducible refine xk (λ h=>?_) (λ h=>?_) <;> try simp only [h,p5,p6,zi]) | (with_reducible refine xb ?_) | rfl)
theorem s28(n k:Nat)(l:List D)(i:Int):zx cx (T4 k) n 83 [.ptr 0 0] (x1 l i)=vg (zm1 (z7 k) l i) λ o j=>some (o,x1 l j):=by
 rw [g28];unfold vg zm1 zik wd yv;simp only [zq,zz,zj,zi,vk,zaf,zac,vl,zag,zcp,zae,zad,zco,zbf,zhe,decide_true,Bool.true_and,x0];cases hp:zg l i with
 | none=>first | rfl | (simp only [za]; done) | (simp only [za]; cases decide (200<v) <;> rfl)
 | some p=>
  simp only [hp,zi];repeat' (first | (with_reducible refine y0 λ x hx=>?_; try simp only [hx,zi]) | (with_reducible refine xk (λ h=>?_) (λ h=>?_) <;> try simp only [h,p5,p6,zi]) | (with_reducible refine xb ?_) | rfl)
theorem z2g(n k:Nat)(l:List D)(v:Int):∀ (r:Nat) (i:Int) (t u:Tr),LP cx (T4 k) n 144 1 2 r [(0,V.ptr 0 0),(1,V.d (D.int .i64 v)),(4,V.ptr 5 0),(5,V.ptr 6 0)] [(0,Ob.val 2 (V.d (D.agg [D.sl 3 l,D.int .i64 i]))),(5,Ob.val 5 (V.d (trD u))),(6,Ob.val 5 (V.d (trD t)))] (AK cx (T4 k) n 144 1 2 (EK cx 144 1))=vg (zd0 (z7 k) r l i v t) λ o j=>some (o,x1 l j)
 | 0,i,t,u=>rfl
 | r+1,i,t,u=>by
  rw [z5a];unfold vg zd0;simp only [yv];simp only [zq,zz,zj,zi,vk,zaf,zac,vl,zag,zcp,zae,zad,zco,zbf,zhe,decide_true,Bool.true_and,x0];repeat' (first | (exact z2g n k l v r _ ⟨14,[],[trD t,trD (zc _)],[],t.pl⟩ u) | (with_reducible refine y0 λ x hx=>?_; try simp only [hx,zi]) | (with_reducible refine xk (λ h=>?_) (λ h=>?_) <;> try simp only [h,p5,p6,zi]) | (with_reducible refine xb ?_) | rfl)
theorem z2e(n k:Nat)(l:List D)(v:Int):∀ (r:Nat) (i:Int) (t u:Tr),LP cx (T4 k) n 175 1 2 r [(0,V.ptr 0 0),(1,V.d (D.int .i64 v)),(4,V.ptr 5 0),(5,V.ptr 6 0)] [(0,Ob.val 2 (V.d (D.agg [D.sl 3 l,D.int .i64 i]))),(5,Ob.val 5 (V.d (trD u))),(6,Ob.val 5 (V.d (trD t)))] (AK cx (T4 k) n 175 1 2 (EK cx 175 1))=vg (zdz (z7 k) r l i v t) λ o j=>some (o,x1 l j)
 | 0,i,t,u=>rfl
 | r+1,i,t,u=>by
  rw [z48];unfold vg zdz;simp only [yv];simp only [zq,zz,zj,zi,vk,zaf,zac,vl,zag,zcp,zae,zad,zco,zbf,zhe,decide_true,Bool.true_and,x0];repeat' (first | (exact z2e n k l v r _ ⟨15,[],[trD t,trD (zc _)],[],t.pl⟩ u) | (with_reducible refine y0 λ x hx=>?_; try simp only [hx,zi]) | (with_reducible refine xk (λ h=>?_) (λ h=>?_) <;> try simp only [h,p5,p6,zi]) | (with_reducible refine xb ?_) | rfl)
theorem u54(n k:Nat)(l:List D)(v:Int):∀ (r:Nat) (i:Int) (t u:Tr),LP cx (T4 k) n 74 1 6 r [(0,V.ptr 0 0),(1,V.d (D.int .i64 v)),(5,V.ptr 6 0),(6,V.ptr 7 0)] [(0,Ob.val 2 (V.d (D.agg [D.sl 3 l,D.int .i64 i]))),(6,Ob.val 5 (V.d (trD t))),(7,Ob.val 5 (V.d (trD u)))] (AK cx (T4 k) n 74 1 6 (EK cx 74 1))=vg (zaw (z7 k) r l i v t) λ o j=>some (o,x1 l j)
 | 0,i,t,u=>rfl
 | r+1,i,t,u=>by
  rw [h54];unfold vg zaw;simp only [yv];simp only [zq,zz,zj,zi,vk,zaf,zac,vl,zag,zcp,zae,zad,zco,zbf,zhe,decide_true,Bool.true_and,x0];repeat' (first | (exact u54 n k l v r _ ⟨7,[],[trD t,trD (zc _)],[],t.pl⟩ u) | (exact u54 n k l v r _ ⟨6,[],[trD t,trD (zc _)],[],t.pl⟩ u) | (with_reducible refine y0 λ x hx=>?_; try simp only [hx,zi]) | (with_reducible refine xk (λ h=>?_) (λ h=>?_) <;> try simp only [h,p5,p6,zi]) | (with_reducible refine xb ?_) | rfl)
theorem u49(n k:Nat)(l:List D)  : ∀ (r:Nat) (i:Int) (ns:List D),LP cx (T4 k) n 69 1 2 r [(0,V.ptr 0 0),(3,V.sl 1 ns 7)] [(0,Ob.val 2 (V.d (D.agg [D.sl 3 l,D.int .i64 i]))),(7,Ob.tok ns.length)] (AK cx (T4 k) n 69 1 2 (EK cx 69 1))=za (zck r l i ns) λ p=>bif zji p then some (.ret (.d (.sl 1 (zo3 p))),x1 l (w9 p)) else some (.pan (zcl (zgj p) (zjk p)),x1 l (w9 p))
 | 0,_,_=>rfl
 | r+1,i,ns=>by
  rw [h49]
  skip
  simp only [zck];simp only [zq,zz,zj,zi,vk,zaf,zac,vl,zag,zcp,zae,zad,zco,zbf,zhe,decide_true,Bool.true_and,x0];try simp only [←pj]
  repeat' (first | (exact u49 n k l r _ _) | (with_reducible refine y0 λ x hx=>?_; try simp only [hx,zi]) | (with_reducible refine xk (λ h=>?_) (λ h=>?_) <;> try simp only [h,p5,p6,zi]) | (with_reducible refine xb ?_) | rfl)
theorem z2f(n k:Nat)(l:List D)(a:Int)(u:Tr):∀ (r:Nat) (i:Int) (kids:List D),LP cx (T4 k) n 145 1 5 r [(0,V.ptr 0 0),(2,V.ptr 3 0),(3,V.ptr 4 0)] [(0,Ob.val 2 (V.d (D.agg [D.sl 3 l,D.int .i64 i]))),(3,Ob.val 5 (V.d (trD u))),(4,Ob.val 5 (V.agg [V.d (D.int .i64 (12:Int)),V.d (D.str []),V.sl 5 kids 10,V.d (D.sl 1 []),V.d (D.int .i64 a)])),(10,Ob.tok kids.length)] (AK cx (T4 k) n 145 1 5 (EK cx 145 1))=vg (zd1 r l i kids a) λ o j=>some (o,x1 l j)
 | 0,_,_=>rfl
 | r+1,i,kids=>by
  rw [z49];unfold vg;simp only [zd1,zik,wd,yv];simp only [zq,zz,zj,zi,vk,zaf,zac,vl,zag,zcp,zae,zad,zco,zbf,zhe,decide_true,Bool.true_and,x0];try simp only [←pj]
  repeat' (first | (exact z2f n k l a u r _ _) | (with_reducible refine y0 λ x hx=>?_; try simp only [hx,zi]) | (with_reducible refine xk (λ h=>?_) (λ h=>?_) <;> try simp only [h,p5,p6,zi]) | (with_reducible refine xb ?_) | rfl)
theorem u81(n k:Nat)(l:List D)(v a:Int)(u:Tr):∀ (r:Nat) (i:Int) (kids:List D),LP cx (T4 k) n 105 1 2 r [(0,V.ptr 0 0),(1,V.d (D.int .i64 v)),(4,V.ptr 5 0),(5,V.ptr 6 0)] [(0,Ob.val 2 (V.d (D.agg [D.sl 3 l,D.int .i64 i]))),(5,Ob.val 5 (V.d (trD u))),(6,Ob.val 5 (V.agg [V.d (D.int .i64 (10:Int)),V.d (D.str []),V.sl 5 kids 11,V.d (D.sl 1 []),V.d (D.int .i64 a)])),(11,Ob.tok kids.length)] (AK cx (T4 k) n 105 1 2 (EK cx 105 1))=vg (zcb (z7 k) r l i v kids a) λ o j=>some (o,x1 l j)
 | 0,_,_=>rfl
 | r+1,i,kids=>by
  rw [h81];unfold vg;simp only [zcb,zm2,wd,yv];simp only [zq,zz,zj,zi,vk,zaf,zac,vl,zag,zcp,zae,zad,zco,zbf,zhe,decide_true,Bool.true_and,x0];try simp only [←pj]
  repeat' (first | (exact u81 n k l v a u r _ _) | (with_reducible refine y0 λ x hx=>?_; try simp only [hx,zi]) | (with_reducible refine xk (λ h=>?_) (λ h=>?_) <;> try simp only [h,p5,p6,zi]) | (with_reducible refine xb ?_) | rfl)
theorem z4p(n k:Nat)(l:List D)(i v:Int):zx cx (T4 k) n 144 [.ptr 0 0,.d (.int .i64 v)] (x1 l i)=vg (zf1 (z7 k) n l i v) λ o j=>some (o,x1 l j):=by
 rw [z5f];unfold vg zf1 yv;simp only [zq,zz,zj,zi,vk,zaf,zac,vl,zag,zcp,zae,zad,zco,zbf,zhe,decide_true,Bool.true_and,x0];repeat' (first | (exact z2g n k l v n _ (zc _) ⟨0,[],[],[],0⟩) | (with_reducible refine y0 λ x hx=>?_; try simp only [hx,zi]) | (with_reducible refine xk (λ h=>?_) (λ h=>?_) <;> try simp only [h,p5,p6,zi]) | (with_reducible refine xb ?_) | rfl)
theorem z4n(n k:Nat)(l:List D)(i v:Int):zx cx (T4 k) n 175 [.ptr 0 0,.d (.int .i64 v)] (x1 l i)=vg (zf0 (z7 k) n l i v) λ o j=>some (o,x1 l j):=by
 rw [z5d];unfold vg zf0 yv;simp only [zq,zz,zj,zi,vk,zaf,zac,vl,zag,zcp,zae,zad,zco,zbf,zhe,decide_true,Bool.true_and,x0];repeat' (first | (exact z2e n k l v n _ (zc _) ⟨0,[],[],[],0⟩) | (with_reducible refine y0 λ x hx=>?_; try simp only [hx,zi]) | (with_reducible refine xk (λ h=>?_) (λ h=>?_) <;> try simp only [h,p5,p6,zi]) | (with_reducible refine xb ?_) | rfl)
theorem z4o(n k:Nat)(l:List D)(i:Int):zx cx (T4 k) n 145 [.ptr 0 0] (x1 l i)=vg (zf2 n l i) λ o j=>some (o,x1 l j):=by
 rw [z5e];unfold vg zf2;simp only [zq,zz,zj,zi,vk,zaf,zac,vl,zag,zcp,zae,zad,zco,zbf,zhe,decide_true,Bool.true_and,x0];repeat' (first | (exact z2f n k l _ ⟨0,[],[],[],0⟩ n _ _) | (with_reducible refine y0 λ x hx=>?_; try simp only [hx,zi]) | (with_reducible refine xk (λ h=>?_) (λ h=>?_) <;> try simp only [h,p5,p6,zi]) | (with_reducible refine xb ?_) | rfl)
theorem s81(n k:Nat)(l:List D)(i v:Int):zx cx (T4 k) n 105 [.ptr 0 0,.d (.int .i64 v)] (x1 l i)=vg (zin (z7 k) n l i v) λ o j=>some (o,x1 l j):=by
 rw [g81];unfold vg zin;simp only [zq,zz,zj,zi,vk,zaf,zac,vl,zag,zcp,zae,zad,zco,zbf,zhe,decide_true,Bool.true_and,x0];repeat' (first | (exact u81 n k l v _ ⟨0,[],[],[],0⟩ n _ _) | (with_reducible refine y0 λ x hx=>?_; try simp only [hx,zi]) | (with_reducible refine xk (λ h=>?_) (λ h=>?_) <;> try simp only [h,p5,p6,zi]) | (with_reducible refine xb ?_) | rfl)
theorem s54(n k:Nat)(l:List D)(i v:Int)(t:Tr):zx cx (T4 k) n 74 [.ptr 0 0,.d (.int .i64 v),.d (trD t)] (x1 l i)=vg (zaw (z7 k) n l i v t) λ o j=>some (o,x1 l j):=by
 rw [g54];exact u54 n k l v n i t ⟨0,[],[],[],0⟩
theorem s49(n k:Nat)(l:List D)(i:Int):zx cx (T4 k) n 69 [.ptr 0 0] (x1 l i)=za (zdy n l i) λ p=>bif zji p then some (.ret (.d (.sl 1 (zo3 p))),x1 l (w9 p)) else some (.pan (zcl (zgj p) (zjk p)),x1 l (w9 p)):=by
 rw [g49];unfold zdy;simp only [zq,zz,zj,zi,vk,zaf,zac,vl,zag,zcp,zae,zad,zco,zbf,zhe,decide_true,Bool.true_and,x0];repeat' (first | (exact u49 n k l n _ [_]) | (with_reducible refine y0 λ x hx=>?_; try simp only [hx,zi]) | (with_reducible refine xk (λ h=>?_) (λ h=>?_) <;> try simp only [h,p5,p6,zi]) | (with_reducible refine xb ?_) | rfl)
theorem ztm{a:List V}{σ:St}{q:Int×Int×List D×Option Nat}(h:zut a σ=some q):(∃ k p l,q=(k,p,l,none)∧a=[.d (.int .i64 k),.d (.int .i64 p),.d (.sl 5 l)]∧σ=[])∨∃ k p l m,q=(k,p,l,some m)∧a=[.d (.int .i64 k),.d (.int .i64 p),.sl 5 l 0]∧σ=[(0,.tok m)]:=by
 unfold zut at h;split at h
 ·cases h; exact .inl ⟨_,_,_,rfl,rfl,rfl⟩
 ·cases h; exact .inr ⟨_,_,_,_,rfl,rfl,rfl⟩
 ·cases h
theorem zk6:knows cx (z05 T3).S (zl cx):=by
 intro g args σ r hd h;simp only [z05] at h;cases hg:Nat.beq g 75 <;> rw [hg] at h
 ·exact zsa g args σ r hd h
 ·obtain rfl:=po hg;simp only [p5] at h;obtain ⟨q,hq,h⟩:=zb h;refine zt zsa (N:=0) ?_;rcases ztm hq with ⟨k,p,l,rfl,rfl,rfl⟩ | ⟨k,p,l,m,rfl,rfl,rfl⟩
  ·rw [g55]; exact h
  ·rw [z5b]; exact h
theorem zm0:∀ k,knows cx (T4 k).S (zl cx)
 | 0=>by
  unfold T4;refine yh (yh (yh (yh (yh (yh (yh (yh (yh zk6 ?_) ?_) ?_) ?_) ?_) ?_) ?_) ?_) ?_ <;> (intro l i x r a hd h; cases h)
 | k+1=>by
  have hT:=zm0 k;unfold T4;refine yh (yh (yh (yh (yh (yh (yh (yh (yh zk6 ?_) ?_) ?_) ?_) ?_) ?_) ?_) ?_) ?_
  ·intro l i x r a hd h;rw [zau hd]; refine zt hT (N:=k) ?_; exact (s49 k k l i).trans h
  ·intro l i x r a hd h;rw [zat hd]; refine zt hT (N:=k) ?_; exact (s80 k k l i x).trans h
  ·intro l i x r a hd h;rw [zat hd]; refine zt hT (N:=k) ?_; exact (z4n k k l i x).trans h
  ·intro l i x r a hd h;rw [zat hd]; refine zt hT (N:=k) ?_; exact (z4p k k l i x).trans h
  ·intro l i x r a hd h;rw [zau hd]; refine zt hT (N:=k) ?_; exact (z4o k k l i).trans h
  ·intro l i x r a hd h;rw [zat hd]; refine zt hT (N:=k) ?_; exact (s81 k k l i x).trans h
  ·intro l i x r a hd h;rw [zat hd]; refine zt hT (N:=k) ?_; exact (s56 k k l i x).trans h
  ·intro l i x r a hd h;rw [zv5 hd]; refine zt hT (N:=k) ?_; exact (s54 k k l i x.1 x.2).trans h
  ·intro l i x r a hd h;rw [zat hd]; refine zt hT (N:=k) ?_; exact (s25 k k l i x).trans h
theorem zzh(k:Nat)(l:List D)(i:Int){r:R1}(h:vg (zkm k l i) (λ o j=>some (o,x1 l j))=some r):zl cx 83 [.ptr 0 0] (x1 l i)=some r:=
 zt (zm0 k) (N:=0) (by rw [s28]; exact h)
noncomputable def T5(k:Nat):CK R1:=rdr 83 (F28 k) (T4 k)
theorem zmz(k:Nat):knows cx (T5 k).S (zl cx):=yh (zm0 k) λ l i x r a hd h=>by
 rw [zau hd];exact zzh k l i h
inductive PL where
 | ok (ds:List D) (j:Int)
 | bad (a e j:Int) (ds:List D)
def zyw:PL→Bool | .ok _ _=>true | _=>false
def zf3:PL→List D | .ok ds _=>ds | .bad _ _ _ ds=>ds
def zkj:PL→Int | .ok _ j=>j | .bad _ _ j _=>j
def zux:PL→Int | .bad a _ _ _=>a | _=>0
def zyy:PL→Int | .bad _ e _ _=>e | _=>0
def zgi(k:Nat):Nat→List D→Int→List D→Option PL
 | 0,_,_,_=>none
 | r+1,l,i,ds=>za (zg l i) λ p=>bif decide (p.1=0) then some (.ok ds i)
  else za (zkm k l i) λ q=>bif yw q then zh (v7 ds) (zgi k r l (zo q) (ds++[trD (zc q)])) else some (.bad (yy q) (xm q) (zo q) ds)
def zyg:List V→St→Option (List D×Int×Int×List UInt8×Int×Nat×Nat)
 | [.ptr 0 0,.ptr 1 0],[(0,.val 2 (.d (.agg [.sl 3 l,.int .i64 i]))),(1,.val 5 (.agg [.d (.int .i64 z),.d (.str e),.sl 5 [] 2,.sl 1 [] 3,.d (.int .i64 y)])),(2,.tok a),(3,.tok b)]=>some (l,i,z,e,y,a,b)
 | _,_=>none
def zzs(k:Nat)(K:Out→St→Option R1):List D×Int×Int×List UInt8×Int×Nat×Nat→Option R1
 | (l,i,z,e,y,a,b)=>za (xr k l i 1) λ p=>bif yw p then K (.ret (.tup [])) [(0,.val 2 (.d (.agg [.sl 3 l,.int .i64 (zo p)]))),(1,.val 5 (.d (trD (zc p)))),(2,.tok a),(3,.tok b)]
  else K (.pan (zcl (yy p) (xm p))) [(0,.val 2 (.d (.agg [.sl 3 l,.int .i64 (zo p)]))),(1,.val 5 (.agg [.d (.int .i64 z),.d (.str e),.sl 5 [] 2,.sl 1 [] 3,.d (.int .i64 y)])),(2,.tok a),(3,.tok b)]
theorem zzr(k:Nat)(K:Out→St→Option R1)(q:List D×Int×Int×List UInt8×Int×Nat×Nat):zzs k K q=zdq (zzs k (λ o s=>some (o,s)) q) K:=by
 obtain ⟨l,i,z,e,y,a,b⟩:=q;show za _ _=zdq (za _ _) K;rw [y6];congr 1;funext p;rw [wi];rfl
def zyf:List V→St→Option (List D×Int)
 | [.ptr 0 0,.ptr 1 0],[(0,.val 2 (.d (.agg [.sl 3 l,.int .i64 i]))),(1,.val 1 (.sl 5 [] 2)),(2,.tok 0)]=>some (l,i)
 | _,_=>none
def zzq(k:Nat)(K:Out→St→Option R1):List D×Int→Option R1
 | (l,i)=>za (zgi k k l i []) λ p=>bif zyw p then K (.ret (.tup [])) [(0,.val 2 (.d (.agg [.sl 3 l,.int .i64 (zkj p)]))),(1,.val 1 (.sl 5 (zf3 p) 2)),(2,.tok (zf3 p).length)]
  else K (.pan (zcl (zux p) (zyy p))) [(0,.val 2 (.d (.agg [.sl 3 l,.int .i64 (zkj p)]))),(1,.val 1 (.sl 5 (zf3 p) 2)),(2,.tok (zf3 p).length)]
theorem zzp(k:Nat)(K:Out→St→Option R1)(q:List D×Int):zzq k K q=zdq (zzq k (λ o s=>some (o,s)) q) K:=by
 obtain ⟨l,i⟩:=q;show za _ _=zdq (za _ _) K;rw [y6];congr 1;funext p;rw [wi];rfl
noncomputable def T6(k:Nat):CK R1:=more 63 zuu zta zuo (more 40 zyg (zzs k) (zzr k) (more 82 zyf (zzq k) (zzp k) (T5 k)))
def ED(cx:Cx)(call:CK (Out×St))(n f m g:Nat)(cap:List V):Ex→Fr→St→Option (Out×St):=zlz cx (zpw cx call.S n) f m (z0h cx f) g cap
theorem g24(n k a b:Nat)(l:List D)(i z y:Int)(e:List UInt8):zx cx (T5 k) n 40 [.ptr 0 0,.ptr 1 0] [(0,.val 2 (.d (.agg [.sl 3 l,.int .i64 i]))),(1,.val 5 (.agg [.d (.int .i64 z),.d (.str e),.sl 5 [] 2,.sl 1 [] 3,.d (.int .i64 y)])),(2,.tok a),(3,.tok b)]=za (xr k l i (1:Int)) λ p=>bif yw p then some (Out.ret (V.tup []),[(0,Ob.val 2 (V.d (D.agg [D.sl 3 l,D.int .i64 (zo p)]))),(1,Ob.val 5 (V.d (D.agg [D.int .i64 (zc p).k,D.str (zc p).2,D.sl 5 (zc p).3,D.sl 1 (zc p).4,D.int .i64 (zc p).pl]))),(2,Ob.tok a),(3,Ob.tok b)]) else some (Out.pan (V.d (D.iface 115 (D.agg [D.int .i64 (yy p),D.int .i64 (xm p)]))),[(0,Ob.val 2 (V.d (D.agg [D.sl 3 l,D.int .i64 (zo p)]))),(1,Ob.val 5 (V.agg [V.d (D.int .i64 z),V.d (D.str e),V.sl 5 [] 2,V.sl 1 [] 3,V.d (D.int .i64 y)])),(2,Ob.tok a),(3,Ob.tok b)]):=by kernel_rfl
theorem g26(n k:Nat)(l:List D)(i:Int):zx cx (T5 k) n 82 [.ptr 0 0,.ptr 1 0] [(0,.val 2 (.d (.agg [.sl 3 l,.int .i64 i]))),(1,.val 1 (.sl 5 [] 2)),(2,.tok 0)]=LP cx (T5 k) n 82 3 0 n [(0,V.ptr 0 0),(1,V.ptr 1 0)] [(0,Ob.val 2 (V.d (D.agg [D.sl 3 l,D.int .i64 i]))),(1,Ob.val 1 (V.sl 5 [] 2)),(2,Ob.tok 0)] (AK cx (T5 k) n 82 3 0 (EK cx 82 3)):=by kernel_rfl
theorem h26(n k r:Nat)(l ds:List D)(i:Int):LP cx (T5 k) n 82 3 0 (r+1) [(0,V.ptr 0 0),(1,V.ptr 1 0)] [(0,Ob.val 2 (V.d (D.agg [D.sl 3 l,D.int .i64 i]))),(1,Ob.val 1 (V.sl 5 ds 2)),(2,Ob.tok ds.length)] (AK cx (T5 k) n 82 3 0 (EK cx 82 3))=za (zg l i) λ p=>bif !decide (p.fst=(0:Int)) then za (zkm k l i) λ p=>bif yw p then zh (decide (ds.length=ds.length)&&decide ((↑ds.length:Int)=(↑ds.length:Int))&&decide (ds.length+1≤4294967296)&&true&&true) (LP cx (T5 k) n 82 3 0 r [(0,V.ptr 0 0),(1,V.ptr 1 0)] [(0,Ob.val 2 (V.d (D.agg [D.sl 3 l,D.int .i64 (zo p)]))),(1,Ob.val 1 (V.sl 5 (ds++[D.agg [D.int .i64 (zc p).k,D.str (zc p).2,D.sl 5 (zc p).3,D.sl 1 (zc p).4,D.int .i64 (zc p).pl]]) 2)),(2,Ob.tok (ds.length+1))] (AK cx (T5 k) n 82 3 0 (EK cx 82 3))) else some (Out.pan (V.d (D.iface 115 (D.agg [D.int .i64 (yy p),D.int .i64 (xm p)]))),[(0,Ob.val 2 (V.d (D.agg [D.sl 3 l,D.int .i64 (zo p)]))),(1,Ob.val 1 (V.sl 5 ds 2)),(2,Ob.tok ds.length)]) else some (Out.ret (V.tup []),[(0,Ob.val 2 (V.d (D.agg [D.sl 3 l,D.int .i64 i]))),(1,Ob.val 1 (V.sl 5 ds 2)),(2,Ob.tok ds.length)]):=by kernel_rfl
theorem z5c(n k a b:Nat)(s e:List UInt8)(z y:Int):zx cx (T6 k) n 39 [V.d (D.str s),V.func 40 [V.ptr 0 0]] [(0,Ob.val 5 (V.agg [V.d (D.int .i64 z),V.d (D.str e),V.sl 5 [] 1,V.sl 1 [] 2,V.d (D.int .i64 y)])),(1,Ob.tok a),(2,Ob.tok b)]=zh (decide (s.length≤big)) (bif decide (xj s=0) then zh (decide (0≤IntKind.i64.wrap ((↑(yr s).length:Int) - (1:Int)))&&decide (IntKind.i64.wrap ((↑(yr s).length:Int) - (1:Int))<(↑(yr s).length:Int))) (vh (yr s) (IntKind.i64.wrap ((↑(yr s).length:Int) - (1:Int))).toNat λ y_1=>OPS cx (T6 k) n 39 3 5 5 [(24,V.eptr y_1 0),(23,V.d (D.int .i64 (IntKind.i64.wrap ((↑(yr s).length:Int) - (1:Int))))),(22,V.d (D.int .i64 (↑(yr s).length:Int))),(21,V.sl 3 (yr s) 14),(20,V.sl 3 (yr s) 14),(19,V.func 64 [V.ptr 7 0,V.ptr 8 0]),(16,V.d (D.bool false)),(15,V.d (D.int .i64 (0:Int))),(6,V.sl 3 (yr s) 14),(14,V.d (D.int .i64 (0:Int))),(13,V.d (D.int .i64 (qe s))),(12,V.sl 3 (yr s) 14),(9,V.tup [V.sl 3 (yr s) 14,V.d (D.int .i64 (qe s)),V.d (D.int .i64 (0:Int))]),(11,V.tup [V.sl 3 (yr s) 14,V.d (D.int .i64 (qe s)),V.d (D.int .i64 (0:Int))]),(10,V.d (D.str s)),(5,V.ptr 8 0),(4,V.ptr 7 0),(0,V.d (D.str s)),(1,V.func 40 [V.ptr 0 0])] [(0,Ob.val 5 (V.agg [V.d (D.int .i64 z),V.d (D.str e),V.sl 5 [] 1,V.sl 1 [] 2,V.d (D.int .i64 y)])),(1,Ob.tok a),(2,Ob.tok b),(7,Ob.val 1 (V.d (D.int .i64 (qe s)))),(8,Ob.val 1 (V.d (D.int .i64 (0:Int)))),(14,Ob.tok (yr s).length)] (AR cx (T6 k) n 39 3 5 (ED cx (T6 k) n 39 3 64 [V.ptr 7 0,V.ptr 8 0]))) else bif !decide (xj s=(0:Int)) then some (Out.ret (V.tup [V.d (D.int .i64 (qe s)),V.d (D.int .i64 (xj s))]),[(0,Ob.val 5 (V.agg [V.d (D.int .i64 z),V.d (D.str e),V.sl 5 [] 1,V.sl 1 [] 2,V.d (D.int .i64 y)])),(1,Ob.tok a),(2,Ob.tok b)]) else none):=by kernel_rfl
theorem z47(n k a b:Nat)(s e:List UInt8)(z y:Int)(L:List D)(q:Int)(t:List UInt8)(c:Int):OPS cx (T6 k) n 39 3 5 5 [(24,V.eptr (zy q t c) 0),(23,V.d (D.int .i64 (IntKind.i64.wrap ((↑L.length:Int) - (1:Int))))),(22,V.d (D.int .i64 (↑L.length:Int))),(21,V.sl 3 L 14),(20,V.sl 3 L 14),(19,V.func 64 [V.ptr 7 0,V.ptr 8 0]),(16,V.d (D.bool false)),(15,V.d (D.int .i64 (0:Int))),(6,V.sl 3 L 14),(14,V.d (D.int .i64 (0:Int))),(13,V.d (D.int .i64 (qe s))),(12,V.sl 3 L 14),(9,V.tup [V.sl 3 L 14,V.d (D.int .i64 (qe s)),V.d (D.int .i64 (0:Int))]),(11,V.tup [V.sl 3 L 14,V.d (D.int .i64 (qe s)),V.d (D.int .i64 (0:Int))]),(10,V.d (D.str s)),(5,V.ptr 8 0),(4,V.ptr 7 0),(0,V.d (D.str s)),(1,V.func 40 [V.ptr 0 0])] [(0,Ob.val 5 (V.agg [V.d (D.int .i64 z),V.d (D.str e),V.sl 5 [] 1,V.sl 1 [] 2,V.d (D.int .i64 y)])),(1,Ob.tok a),(2,Ob.tok b),(7,Ob.val 1 (V.d (D.int .i64 (qe s)))),(8,Ob.val 1 (V.d (D.int .i64 (0:Int)))),(14,Ob.tok L.length)] (AR cx (T6 k) n 39 3 5 (ED cx (T6 k) n 39 3 64 [V.ptr 7 0,V.ptr 8 0]))=zh (decide (L.length=L.length)&&decide (L.length+[D.agg [D.int .i64 q,D.str t,D.int .i64 c],D.agg [D.int .i64 q,D.str t,D.int .i64 c]].length≤4294967296)) (za (xr k (L++[D.agg [D.int .i64 q,D.str t,D.int .i64 c],D.agg [D.int .i64 q,D.str t,D.int .i64 c]]) (0:Int) 1) λ p=>bif yw p then za (zg (L++[D.agg [D.int .i64 q,D.str t,D.int .i64 c],D.agg [D.int .i64 q,D.str t,D.int .i64 c]]) (zo p)) λ p_1=>bif !decide (p_1.fst=(0:Int)) then za (zg (L++[D.agg [D.int .i64 q,D.str t,D.int .i64 c],D.agg [D.int .i64 q,D.str t,D.int .i64 c]]) (zo p)) λ p_2=>some (Out.ret (V.tup [V.d (D.int .i64 p_2.snd.snd),V.d (D.int .i64 (61:Int))]),[(0,Ob.val 5 (V.d (D.agg [D.int .i64 (zc p).k,D.str (zc p).2,D.sl 5 (zc p).3,D.sl 1 (zc p).4,D.int .i64 (zc p).pl]))),(1,Ob.tok a),(2,Ob.tok b)]) else some (Out.ret (V.tup [V.d (D.int .i64 (0:Int)),V.d (D.int .i64 (0:Int))]),[(0,Ob.val 5 (V.d (D.agg [D.int .i64 (zc p).k,D.str (zc p).2,D.sl 5 (zc p).3,D.sl 1 (zc p).4,D.int .i64 (zc p).pl]))),(1,Ob.tok a),(2,Ob.tok b)]) else some (Out.ret (V.tup [V.d (D.int .i64 (yy p)),V.d (D.int .i64 (xm p))]),[(0,Ob.val 5 (V.agg [V.d (D.int .i64 z),V.d (D.str e),V.sl 5 [] 1,V.sl 1 [] 2,V.d (D.int .i64 y)])),(1,Ob.tok a),(2,Ob.tok b)])):=by kernel_rfl
theorem zu6(l:List D):decide (l.length+1≤4294967296)=v7 l:=by
 unfold v7;exact decide_eq_decide.2 (by omega)
theorem u26(n k:Nat)(l:List D):∀ (r:Nat) (i:Int) (ds:List D),LP cx (T5 k) n 82 3 0 r [(0,V.ptr 0 0),(1,V.ptr 1 0)] [(0,Ob.val 2 (V.d (D.agg [D.sl 3 l,D.int .i64 i]))),(1,Ob.val 1 (V.sl 5 ds 2)),(2,Ob.tok ds.length)] (AK cx (T5 k) n 82 3 0 (EK cx 82 3)) =
  za (zgi k r l i ds) λ p=>bif zyw p then some (.ret (.tup []),[(0,.val 2 (.d (.agg [.sl 3 l,.int .i64 (zkj p)]))),(1,.val 1 (.sl 5 (zf3 p) 2)),(2,.tok (zf3 p).length)])
  else some (.pan (zcl (zux p) (zyy p)),[(0,.val 2 (.d (.agg [.sl 3 l,.int .i64 (zkj p)]))),(1,.val 1 (.sl 5 (zf3 p) 2)),(2,.tok (zf3 p).length)])
 | 0,_,_=>rfl
 | r+1,i,ds=>by
  rw [h26];simp only [zgi,decide_true,Bool.true_and,Bool.and_true,zu6,zbf,zq,zz,zj,zi];cases hp:zg l i with
  | none=>rfl
  | some p=>
   simp only [zi];cases decide (p.1=0) with
   | true=>rfl
   | false=>
    simp only [p6];refine y0 λ q hq=>?_;cases yw q with
    | false=>rfl
    | true=>
     simp only [p5];refine xb ?_;have e:=u26 n k l r (zo q) (ds++[trD (zc q)]);rw [pj] at e;exact e
def zba(L:List D):List D:=match L.getLast? with | some e=>L++[e,e] | none=>L
theorem zfn(I:List D)(e:D):zba (I++[e])=I++[e]++[e,e]:=by unfold zba; rw [List.getLast?_concat]
theorem z1i(k:Nat)(a:List V)(σ:St)(q)(r:R1)(hd:zyg a σ=some q)(h:zzs k (λ o s=>some (o,s)) q=some r):zl cx 40 a σ=some r:=by
 unfold zyg at hd;split at hd
 ·cases hd;refine zt (zmz k) (N:=0) ?_;rw [g24];exact h
 ·cases hd
theorem z1h(k:Nat)(a:List V)(σ:St)(q)(r:R1)(hd:zyf a σ=some q)(h:zzq k (λ o s=>some (o,s)) q=some r):zl cx 82 a σ=some r:=by
 unfold zyf at hd;split at hd
 ·cases hd;refine zt (zmz k) (N:=k) ?_;rw [g26];exact (u26 k k _ k _ []).trans h
 ·cases hd
theorem zyv(k:Nat):knows cx (T6 k).S (zl cx):=by
 unfold T6;exact zcu (zcu (zcu (zmz k) (z1h k)) (z1i k)) zxs
def ztn:List V→St→Option (List UInt8×Int×List UInt8×Int×Nat×Nat)
 | [.d (.str s),.func 40 [.ptr 0 0]],[(0,.val 5 (.agg [.d (.int .i64 z),.d (.str e),.sl 5 [] 1,.sl 1 [] 2,.d (.int .i64 y)])),(1,.tok a),(2,.tok b)]=>some (s,z,e,y,a,b)
 | _,_=>none
def zog(k:Nat)(K:Out→St→Option R1):List UInt8×Int×List UInt8×Int×Nat×Nat→Option R1
 | (s,z,e,y,a,b)=>zh (decide (s.length≤big)) <| bif decide (xj s=0) then za (xr k (zba (yr s)) 0 1) λ p=>
   bif yw p then za (zg (zba (yr s)) (zo p)) λ q=>
    bif decide (q.1=0) then K (.ret (.tup [.d (.int .i64 0),.d (.int .i64 0)])) [(0,.val 5 (.d (trD (zc p)))),(1,.tok a),(2,.tok b)]
    else K (.ret (.tup [.d (.int .i64 q.2.2),.d (.int .i64 61)])) [(0,.val 5 (.d (trD (zc p)))),(1,.tok a),(2,.tok b)]
   else K (.ret (.tup [.d (.int .i64 (yy p)),.d (.int .i64 (xm p))])) [(0,.val 5 (.agg [.d (.int .i64 z),.d (.str e),.sl 5 [] 1,.sl 1 [] 2,.d (.int .i64 y)])),(1,.tok a),(2,.tok b)]
  else K (.ret (.tup [.d (.int .i64 (qe s)),.d (.int .i64 (xj s))])) [(0,.val 5 (.agg [.d (.int .i64 z),.d (.str e),.sl 5 [] 1,.sl 1 [] 2,.d (.int .i64 y)])),(1,.tok a),(2,.tok b)]
theorem zx2(k:Nat)(K:Out→St→Option R1)(q:List UInt8×Int×List UInt8×Int×Nat×Nat):zog k K q=zdq (zog k (λ o s=>some (o,s)) q) K:=by
 obtain ⟨s,z,e,y,a,b⟩:=q;simp only [zog,zh,wi,y6];rfl
theorem zsk{s:List UInt8}(h:decide (xj s=0)=true):(yr s).length≤65537:=by
 have h1:=zkv s;rcases zdo s with ⟨h2,_⟩ | ⟨h2,_⟩
 ·unfold yr; omega
 ·exact absurd (ph h) h2
theorem zn8{I:List D}{e:D}(h:(I++[e]).length≤65537):IntKind.i64.wrap (((I++[e]).length:Int) - 1)=(I.length:Int):=by
 have hl:(I++[e]).length=I.length+1:=by simp
 rw [IntWalk.i64_in _ (by omega)]
 omega
theorem last_at{I:List D}{e:D}(h:(I++[e]).length≤65537):(I++[e])[(IntKind.i64.wrap (((I++[e]).length:Int) - 1)).toNat]?=some e:=by
 rw [zn8 h,px,List.getElem?_concat_length]
theorem zzm{I:List D}{e:D}(h:(I++[e]).length≤65537):(decide (0≤IntKind.i64.wrap (((I++[e]).length:Int) - 1))&&decide (IntKind.i64.wrap (((I++[e]).length:Int) - 1)<((I++[e]).length:Int)))=true:=by
 rw [zn8 h];have hl:(I++[e]).length=I.length+1:=by simp
 simp only [pq,decide_eq_true_eq];omega
theorem zzw{L:List D}{x y:D}(h:L.length≤65537):(decide (L.length=L.length)&&decide (L.length+[x,y].length≤4294967296))=true:=by
 rw [pb rfl,pb (p:=L.length+[x,y].length≤4294967296) (by show L.length+2≤_; omega)]
 rfl
theorem z1j(k:Nat)(a:List V)(σ:St)(q)(r:R1)(hd:ztn a σ=some q)(h:zog k (λ o s=>some (o,s)) q=some r):zl cx 39 a σ=some r:=by
 unfold ztn at hd;split at hd
 ·rename_i s z e y a b;cases hd;refine zt (zyv k) (N:=0) ?_;rw [z5c,←h];simp only [zog];refine xb ?_;cases hs:decide (xj s=0)
  ·rfl
  ·obtain ⟨I,hI⟩:=scan_ok hs;have hl:=zsk hs;rw [hI] at hl;simp only [p5];rw [hI,zzm hl,zh,p5,zkg (last_at hl),z47,zzw hl,zh,p5,zfn];refine y0 λ p hp=>?_;cases yw p
   ·rfl
   ·simp only [p5];refine y0 λ t ht=>?_;have hx:zg (I++[zy 0 [] _]++[zy 0 [] _,zy 0 [] _]) (zo p)=some t:=ht;cases hq:decide (t.1=0)
    ·rw [zbf];simp only [hq,p6];exact (congrArg (λ o=>za o _) hx).trans rfl
    ·rw [zbf];simp only [hq,p5];rfl
 ·cases hd
def T8a(k:Nat):CK R1:=more 39 ztn (zog k) (zx2 k) (CK.plain xx)
theorem zwk(k:Nat):knows cx (T8a k).S (zl cx):=zcu yj (z1j k)
theorem g10(n k:Nat)(s:List UInt8):zx cx (T8a k) n 12 [.d (.str s)] []=zh (decide (s.length≤big)) (bif decide (xj s=0) then za (xr k (zba (yr s)) 0 1) λ p=>bif yw p then za (zg (zba (yr s)) (zo p)) λ q=>bif decide (q.fst=0) then some (Out.ret (V.tup [V.d (D.agg [D.int .i64 (zc p).k,D.str (zc p).2,D.sl 5 (zc p).3,D.sl 1 (zc p).4,D.int .i64 (zc p).pl]),V.d (D.int .i64 (0:Int)),V.d (D.int .i64 (0:Int))]),[]) else some (Out.ret (V.tup [V.d (D.agg [D.int .i64 (0:Int),D.str [],D.sl 5 [],D.sl 1 [],D.int .i64 (0:Int)]),V.d (D.int .i64 q.snd.snd),V.d (D.int .i64 (61:Int))]),[]) else bif !decide (xm p=(0:Int)) then some (Out.ret (V.tup [V.d (D.agg [D.int .i64 (0:Int),D.str [],D.sl 5 [],D.sl 1 [],D.int .i64 (0:Int)]),V.d (D.int .i64 (yy p)),V.d (D.int .i64 (xm p))]),[]) else some (Out.ret (V.tup [V.d (D.agg [D.int .i64 (0:Int),D.str [],D.sl 5 [],D.sl 1 [],D.int .i64 (0:Int)]),V.d (D.int .i64 (0:Int)),V.d (D.int .i64 (0:Int))]),[]) else bif !decide (xj s=(0:Int)) then some (Out.ret (V.tup [V.d (D.agg [D.int .i64 (0:Int),D.str [],D.sl 5 [],D.sl 1 [],D.int .i64 (0:Int)]),V.d (D.int .i64 (qe s)),V.d (D.int .i64 (xj s))]),[]) else some (Out.ret (V.tup [V.d (D.agg [D.int .i64 (0:Int),D.str [],D.sl 5 [],D.sl 1 [],D.int .i64 (0:Int)]),V.d (D.int .i64 (0:Int)),V.d (D.int .i64 (0:Int))]),[])):=by kernel_rfl
inductive TR where
 | ok (t:Tr)
 | bad (a e:Int)
def TR.out:TR→Out
 | .ok t=>.ret (.tup [.d (trD t),.d (.int .i64 0),.d (.int .i64 0)])
 | .bad a e=>.ret (.tup [.d (trD ⟨0,[],[],[],0⟩),.d (.int .i64 a),.d (.int .i64 e)])
def TR.fine:TR→Prop
 | .ok _=>True
 | .bad _ e=>e ≠ 0
def xu(k : Nat)(s : List UInt8) : Option TR := bif decide (xj s = 0) then za (xr k (zba (yr s)) 0 1) λ p =>
      bif yw p then za (zg (zba (yr s)) (zo p)) λ q => bif decide (q.1 = 0) then some (.ok (zc p)) else some (.bad q.2.2 61)
      else some (.bad (yy p) (xm p))
    else some (.bad (qe s) (xj s))
inductive TL where
 | ok (l:List D)
 | bad (a e:Int)
theorem zxv(k:Nat)(s:List UInt8)(hs:s.length≤big)(r:TR)(h:xu k s=some r)(hr:r.fine):zl cx 12 [.d (.str s)] []=some (r.out,[]):=by
 refine zt (zwk k) (N:=0) ?_;rw [g10,pb hs,zh,p5];unfold xu at h;cases hc:decide (xj s=0) <;> rw [hc] at h
 ·rw [p6] at h;cases h;rfl
 ·rw [p5] at h;obtain ⟨p,hp,h⟩:=zb h;simp only [p5,hp,zi];cases hq:yw p <;> rw [hq] at h
  ·rw [p6] at h;cases h;rw [p6,pd (p:=xm p=0) hr];rfl
  ·rw [p5] at h;obtain ⟨q,hq,h⟩:=zb h;simp only [p5,hq,zi];cases hz:decide (q.1=0) <;> rw [hz] at h
   ·cases h; rfl
   ·cases h; rfl
structure Toks (l:List D) (m:Nat) (N:Int):Prop where
 at_:∀ x:Int,0≤x→x≤(m:Int)+2→∃ p,zg l x=some p
 kind:∀ (x:Int) p,zg l x=some p→x<m→p.1=1∨p.1=2
 fin:∀ (x:Int) p,zg l x=some p→(m:Int)≤x→p.1=0∧p.2.1=[]
 small:m<100000
 mono:∀ (x y:Int) p q,zg l x=some p→zg l y=some q→x≤y→p.2.2≤q.2.2
 low:∀ (x:Int) p,zg l x=some p→0≤p.2.2∧p.2.2≤N
def Wn(l:List D):Nat→Int→Tr→Prop
 | 0,_,_=>False
 | n+1,x,t=>∃ p,zg l x=some p∧t.pl=p.2.2∧(t.k=1→t.nm=p.2.1)∧1≤t.k∧t.k≤17∧(∀ n∈t.nms,∃ s,n=D.str s) ∧
   (∀ d∈t.kids,∃ u y,d=trD u∧x≤y∧Wn l n y u)∧t.kids.length<4294967296∧t.nms.length<4294967296
def W(l:List D)(x:Int)(t:Tr):Prop:=∃ n,Wn l n x t
theorem z0r{l:List D}:∀ {n:Nat} {x:Int} {t:Tr},Wn l n x t→Wn l (n+1) x t
 | 0,_,_,h=>h.elim
 | n+1,x,t,⟨p,h1,h2,h3,h4,h5,h6,h7,h8⟩=>⟨p,h1,h2,h3,h4,h5,h6,λ d hd=>by
  obtain ⟨u,y,e,hy,hW⟩:=h7 d hd;exact ⟨u,y,e,hy,z0r hW⟩,h8⟩
theorem z0s{l:List D}{n m:Nat}{x:Int}{t:Tr}(h:Wn l n x t)(hm:n≤m):Wn l m x t:=by
 induction hm with
 | refl=>exact h
 | step _ ih=>exact z0r ih
theorem zyt{l:List D}{x:Int}:∀ {ks:List D},(∀ d∈ks,∃ u y,d=trD u∧x≤y∧W l y u)→∃ n,∀ d∈ks,∃ u y,d=trD u∧x≤y∧Wn l n y u
 | [],_=>⟨0,λ d hd=>by cases hd⟩
 | k::ks,h=>by
  obtain ⟨n,hn⟩:=zyt λ d hd=>h d (p0 _ hd);obtain ⟨u,y,e,hy,n',hW⟩:=h k py;refine ⟨max n n',λ d hd=>?_⟩;rcases List.mem_cons.1 hd with rfl | hd
  ·exact ⟨u,y,e,hy,z0s hW (Nat.le_max_right _ _)⟩
  ·obtain ⟨u,y,e,hy,hW⟩:=hn d hd;exact ⟨u,y,e,hy,z0s hW (Nat.le_max_left _ _)⟩
theorem W.mk{l:List D}{x:Int}{t:Tr}{p:Tk3}(h1:zg l x=some p)(h2:t.pl=p.2.2)(h3:t.k=1→t.nm=p.2.1)(h4:1≤t.k)(h5:t.k≤17)(h6:∀ n∈t.nms,∃ s,n=D.str s)
  (h7:∀ d∈t.kids,∃ u y,d=trD u∧x≤y∧W l y u) (h8:t.kids.length<4294967296) (h9:t.nms.length<4294967296):W l x t:=by
 obtain ⟨n,hn⟩:=zyt h7;exact ⟨n+1,p,h1,h2,h3,h4,h5,h6,hn,h8,h9⟩
theorem wt{l:List D}{i:Int}{p:Tk3}(h:zg l i=some p):up i=i+1:=zwv h
theorem zlo{p:Tk3}{s:List UInt8}(h:zr p s=true):p.1=2∧p.2.1=s:=by
 unfold zr at h;simp only [pq,decide_eq_true_eq] at h;exact h
theorem zuw{p:Tk3}(h:(!decide (zbc p=0))=true):p.1=2∧(zbc p=4∨zbc p=5):=by
 unfold zbc at h ⊢;cases h1:zr p [45,62]
 ·cases h2:zr p [42]
  ·rw [h1,h2] at h; exact absurd h (by decide)
  ·exact ⟨(zlo h2).1,.inr rfl⟩
 ·exact ⟨(zlo h1).1,.inl rfl⟩
section
variable {l:List D} {m:Nat} {N:Int}
theorem Toks.lt(h:Toks l m N){x:Int}{p:Tk3}(hp:zg l x=some p)(hk:p.1=1∨p.1=2):x<m:=by
 by_cases hx:x<m
 ·exact hx
 ·have:=(h.fin x p hp (by omega)).1; omega
theorem Toks.sign(h:Toks l m N){x:Int}{p:Tk3}{s:List UInt8}(hp:zg l x=some p)(hs:zr p s=true):x<m:=h.lt hp (.inr (zlo hs).1)
theorem Toks.nm(h:Toks l m N){x:Int}{p:Tk3}(hp:zg l x=some p)(hs:decide (p.1=1)=true):x<m:=h.lt hp (.inl (ph hs))
def z4l(l:List D)(m:Nat)(i:Int):PR→Prop
 | .ok t j=>∃ x,i≤x∧x<j∧j≤m∧W l x t
 | .bad a e _=>(∃ x p,zg l x=some p∧a=p.2.2)∧(e=61∨e=62)
def U(l:List D)(m:Nat)(i:Int)(o:Option PR):Prop:=∃ out,o=some out∧z4l l m i out
def z4m(l:List D)(m:Nat)(i:Int):PN→Prop
 | .ok ns j=>i<j∧j≤m∧(∀ n∈ns,∃ s,n=D.str s)∧(ns.length:Int)≤m
 | .bad a e _=>(∃ x p,zg l x=some p∧a=p.2.2)∧(e=61∨e=62)
def UN(l:List D)(m:Nat)(i:Int)(o:Option PN):Prop:=∃ out,o=some out∧z4m l m i out
theorem zhn{i x j e:Int}{p:Tk3}(hp:zg l x=some p)(he:e=61∨e=62):U l m i (some (.bad p.2.2 e j)):=⟨_,rfl,⟨x,p,hp,rfl⟩,he⟩
theorem ze6{i x j:Int}{t:Tr}(hi:i≤x)(hx:x<j)(hj:j≤m)(hW:W l x t):U l m i (some (.ok t j)):=⟨_,rfl,x,hi,hx,hj,hW⟩
theorem zax{i:Int}{c:Bool}{a b:Option PR}(ha:c=true→U l m i a)(hb:c=false→U l m i b):U l m i (bif c then a else b):=by
 cases c
 ·exact hb rfl
 ·exact ha rfl
theorem vj{i i':Int}{c:Option PR}{K:Tr→Int→Option PR}(hc:U l m i' c)(hK:∀ t j x,i'≤x→x<j→j≤m→W l x t→U l m i (K t j)):U l m i (yv c K):=by
 obtain ⟨out,rfl,hg⟩:=hc;cases out with
 | ok t j=>obtain ⟨x,h1,h2,h3,h4⟩:=hg; exact hK t j x h1 h2 h3 h4
 | bad a e j=>exact ⟨_,rfl,hg⟩
theorem zt7{i i':Int}{c:Option PN}{K:List D→Int→Option PR}(hc:UN l m i' c)(hK:∀ ns j,i'<j→j≤m→(∀ n∈ns,∃ s,n=D.str s)→(ns.length:Int)≤m→U l m i (K ns j)):U l m i (zim c K):=by
 obtain ⟨out,rfl,hg⟩:=hc;cases out with
 | ok t j=>obtain ⟨h1,h2,h3,h4⟩:=hg; exact hK t j h1 h2 h3 h4
 | bad a e j=>exact ⟨_,rfl,hg⟩
theorem zbu(h:Toks l m N){i x:Int}{F:Tk3→Option PR}(h0:0≤x)(h1:x≤m)(hF:∀ p,zg l x=some p→U l m i (F p)):U l m i (za (zg l x) F):=by
 obtain ⟨p,hp⟩:=h.at_ x h0 (by omega)
 rw [hp];exact hF p hp
theorem zd2(h:Toks l m N){i x:Int}{s:List UInt8}{K:Int→Option PR}(h0:0≤x)(h1:x≤m)(hK:x+1≤m→U l m i (K (x+1))):U l m i (wd l x s K):=by
 refine zbu h h0 h1 λ p hp=>zax (λ hs=>?_) λ _=>zhn hp (.inl rfl);have:=h.sign hp hs;rw [wt hp];exact hK (by omega)
theorem z0v(h:Toks l m N){i x:Int}{K:List UInt8→Int→Option PR}(h0:0≤x)(h1:x≤m)(hK:∀ p,zg l x=some p→p.1=1→x+1≤m→U l m i (K p.2.1 (x+1))):U l m i (zik l x K):=by
 refine zbu h h0 h1 λ p hp=>zax (λ hs=>?_) λ _=>zhn hp (.inl rfl);have:=h.nm hp hs;rw [wt hp];exact hK p hp (ph hs) (by omega)
theorem zsc{i:Int}{c:Bool}{a:Option PR}(hc:c=true)(ha:U l m i a):U l m i (zh c a):=by rw [hc]; exact ha
theorem zhr{k:List D}{n:Int}(h:(k.length:Int)≤n)(hn:n≤100000):v7 k=true:=pb (by omega)
structure UU (l:List D) (m:Nat) (k:Nat):Prop where
 names:∀ i:Int,0≤i→i≤m→8 * (m - i)+3≤k→UN l m i ((z7 k).names l i)
 face:∀ i:Int,0≤i→i≤m→8 * (m - i)+3≤k→U l m i ((z7 k).face l i)
 term:∀ i v:Int,0≤i→i≤m→8 * (m - i)+6≤k→U l m i ((z7 k).term l i v)
 after:∀ (i v:Int) t x i0,0≤i0→i0≤x→x<i→i≤m→W l x t→8 * (m - i)+5≤k→U l m i0 ((z7 k).after l i v t)
 atom:∀ i v:Int,0≤i→i≤m→8 * (m - i)+4≤k→U l m i ((z7 k).atom l i v)
 box:∀ (i v:Int) p,0≤i→i≤m→zg l i=some p→zr p [91]=true→8 * (m - i)+3≤k→U l m i ((z7 k).box l i v)
 join:∀ i v:Int,0≤i→i≤m→8 * (m - i)+5≤k→U l m i ((z7 k).join l i v)
 meet:∀ i v:Int,0≤i→i≤m→8 * (m - i)+4≤k→U l m i ((z7 k).meet l i v)
 dim:∀ i v:Int,0≤i→i≤m→8 * (m - i)+3≤k→U l m i ((z7 k).dim l i v)
theorem zds{x:Int}:∀ d∈([]:List D),∃ u y,d=trD u∧x≤y∧W l y u:=λ d hd=>by cases hd
theorem zcw{x y:Int}{t:Tr}(h:W l y t)(hx:x≤y):∀ d∈[trD t],∃ u y,d=trD u∧x≤y∧W l y u:=λ d hd=>by
 rcases List.mem_singleton.1 hd with rfl;exact ⟨t,y,rfl,hx,h⟩
theorem qx{x y z:Int}{t u:Tr}(h:W l y t)(hx:x≤y)(h':W l z u)(hx':x≤z):∀ d∈[trD t,trD u],∃ u y,d=trD u∧x≤y∧W l y u:=λ d hd=>by
 simp only [List.mem_cons,List.not_mem_nil,or_false] at hd;rcases hd with rfl | rfl
 ·exact ⟨t,y,rfl,hx,h⟩
 ·exact ⟨u,z,rfl,hx',h'⟩
theorem wk:∀ n∈([]:List D),∃ s,n=D.str s:=λ d hd=>by cases hd
theorem zki{s:List UInt8}:∀ n∈[D.str s],∃ s,n=D.str s:=λ d hd=>⟨s,List.mem_singleton.1 hd⟩
theorem zqc{x k:Int}{p:Tk3}(hp:zg l x=some p)(h1:1≤k)(h2:k≤17):W l x ⟨k,p.2.1,[],[],p.2.2⟩:=
 .mk hp rfl (λ _=>rfl) h1 h2 wk zds (show 0<4294967296 by decide) (show 0<4294967296 by decide)
theorem qd{x k:Int}{p:Tk3}{s:List UInt8}{kids nms:List D}(hp:zg l x=some p)(h1:2≤k)(h2:k≤17)(hn:∀ n∈nms,∃ s,n=D.str s)(hk:∀ d∈kids,∃ u y,d=trD u∧x≤y∧W l y u)
  (hl:(kids.length:Int)≤200000) (hl':(nms.length:Int)≤200000):W l x ⟨k,s,kids,nms,p.2.2⟩:=
 .mk hp rfl (λ h=>by have:k=1:=h; omega) (by show 1≤k; omega) h2 hn hk (by show kids.length<_; omega) (by show nms.length<_; omega)
theorem z18{x:Int}{t:Tr}(h:W l x t):∃ p,zg l x=some p∧t.pl=p.2.2:=by cases h with | intro n h=>cases n with
 | zero=>exact h.elim
 | succ n=>obtain ⟨p,hp,he,_⟩:=h; exact ⟨p,hp,he⟩
theorem zlb(h:Toks l m N){i0:Int}:∀ (r:Nat) (i:Int) (ns:List D),0≤i→i≤m→i0<i→(∀ n∈ns,∃ s,n=D.str s)→(ns.length:Int)≤i→m - i<r→UN l m i0 (zck r l i ns)
 | 0,i,ns,h0,h1,_,_,_,hr=>by omega
 | r+1,i,ns,h0,h1,hi,hn,hl,hr=>by
  obtain ⟨p,hp⟩:=h.at_ i h0 (by omega)
  rw [zck,hp,zi];cases hk:decide (p.1=1)
  ·exact ⟨_,rfl,hi,h1,hn,by omega⟩
  ·have:=h.nm hp hk;have hs:=h.small;rw [p5,wt hp,zhr (n:=(m:Int)) (by omega) (by omega),zh,p5]
   exact zlb h r (i+1) _ (by omega) (by omega) (by omega) (λ n hn'=>by
    rcases List.mem_append.1 hn' with h' | h'
    ·exact hn n h'
    ·exact zki n h') (by simp; omega) (by omega)
theorem zol(h:Toks l m N){i0 x:Int}{q:Tk3}(hq:zg l x=some q)(hx0:i0≤x):∀ (r:Nat) (i:Int) (kids:List D),0≤i→x≤i→i≤m→(∀ d∈kids,∃ u y,d=trD u∧x≤y∧W l y u)→(kids.length:Int)≤i→m - i<r→U l m i0 (zd1 r l i kids q.2.2)
 | 0,i,_,h0,_,h1,_,_,hr=>by omega
 | r+1,i,kids,h0,hxi,h1,hk,hl,hr=>by
  have hs:=h.small;rw [zd1];refine zbu h h0 h1 λ p hp=>zax (λ hb=>?_) λ _=>zhn hp (.inl rfl);have:=h.sign hp hb;rw [wt hp];refine z0v h (by omega) (by omega) λ s hs' hs1 hs2=>?_
  refine zd2 h (by omega) (by omega) λ h3=>?_
  refine zbu h (by omega) (by omega) λ w hw=>zax (λ hb'=>?_) λ _=>zhn hw (.inl rfl)
  have hw1:i+1+1+1<m:=by
   rcases Bool.or_eq_true _ _ |>.mp hb' with h | h
   ·exact Toks.sign ‹Toks l m N› hw h
   ·exact Toks.sign ‹Toks l m N› hw h
  rw [wt hw];refine zd2 h (by omega) (by omega) λ h4=>?_
  refine zsc (zhr (n:=(m:Int)) (by omega) (by omega)) ?_
  have hW:W l i ⟨13,s.2.1,[],[.str w.2.1],p.2.2⟩:=qd hp (by decide) (by decide) zki zds (by decide) (by simp)
  have hks:∀ d∈kids++[trD ⟨13,s.2.1,[],[.str w.2.1],p.2.2⟩],∃ u y,d=trD u∧x≤y∧W l y u:=λ d hd=>by
   rcases List.mem_append.1 hd with h' | h'
   ·exact hk d h'
   ·exact zcw hW hxi d h'
  refine zbu h (by omega) (by omega) λ y hy=>zax (λ _=>?_) λ _=>?_
  ·exact zol h hq hx0 r _ _ (by omega) (by omega) (by omega) hks (by simp; omega) (by omega)
  ·exact ze6 hx0 (by omega) (by omega) (qd hq (by decide) (by decide) wk hks (by simp; omega) (by decide))
theorem zmj(h : Toks l m N){k : Nat}(hU : UU l m k){i0 x v : Int}{q : Tk3}(hq : zg l x = some q)(hx0 : i0 ≤ x)(h00 : 0 ≤ i0) : ∀ (r : Nat) (i : Int) (kids : List D), x < i → i ≤ m → (∀ d ∈ kids, ∃ u y, d = trD u ∧ x ≤ y ∧ W l y u) → (kids.length : Int) ≤ i → m - i < r → 8 * (m - i) + 6 ≤ k → U l m i0 (zcb (z7 k) r l i v kids q.2.2)
  | 0, i, _, _, h1, _, _, hr, _ => by omega
  | r + 1, i, kids, hxi, h1, hk, hl, hr, hf => by
    have hs := h.small;rw [zcb];refine zbu h (by omega) h1 λ p hp => zax (λ hb => ?_) λ _ => ?_
    · have := h.sign hp hb;rw [wt hp];exact ze6 hx0 (by omega) (by omega) (qd hq (by decide) (by decide) wk hk (by omega) (by decide))
    · have step : ∀ j : Int, i ≤ j → j ≤ m → U l m i0 (za (zg l j) λ q_1 => yv ((z7 k).face l j) λ f j => za (zg l j) λ u =>
          bif zr u [45, 62] then yv ((z7 k).term l (up j) (up v)) λ t j => zh (v7 kids) (zcb (z7 k) r l j v (kids ++ [trD ⟨11, [], [trD f, trD t], [], q_1.2.2⟩]) q.2.2)
          else zh (v7 kids) (zcb (z7 k) r l j v (kids ++ [trD ⟨11, [], [trD f], [], q_1.2.2⟩]) q.2.2)) := by
        intro j hj hjm;refine zbu h (by omega) hjm λ w hw => ?_
        refine vj (hU.face j (by omega) hjm (by omega)) λ f j2 y hy hy2 hj2 hWf => ?_
        refine zbu h (by omega) hj2 λ z hz => zax (λ hb' => ?_) λ _ => ?_
        · have := h.sign hz hb';rw [wt hz];refine vj (hU.term (j2 + 1) _ (by omega) (by omega) (by omega)) λ t j3 y' hy' hy2' hj3 hWt => ?_
          refine zsc (zhr (n := (m : Int)) (by omega) (by omega)) ?_
          have hW : W l j ⟨11, [], [trD f, trD t], [], w.2.2⟩ := qd hw (by decide) (by decide) wk (qx hWf (by omega) hWt (by omega)) (by simp) (by decide)
          refine zmj h hU hq hx0 h00 r j3 _ (by omega) hj3 (λ d hd => ?_) (by simp; omega) (by omega) (by omega)
          rcases List.mem_append.1 hd with h' | h'
          · exact hk d h'
          · exact zcw hW (by omega) d h'
        · refine zsc (zhr (n := (m : Int)) (by omega) (by omega)) ?_
          have hW : W l j ⟨11, [], [trD f], [], w.2.2⟩ := qd hw (by decide) (by decide) wk (zcw hWf (by omega)) (by simp) (by decide)
          refine zmj h hU hq hx0 h00 r j2 _ (by omega) hj2 (λ d hd => ?_) (by simp; omega) (by omega) (by omega)
          rcases List.mem_append.1 hd with h' | h'
          · exact hk d h'
          · exact zcw hW (by omega) d h'
      unfold zm2;refine zax (λ _ => zd2 h (by omega) h1 λ h2 => step _ (by omega) h2) λ _ => step i (by omega) h1
theorem zhh(h:Toks l m N){k:Nat}(hU:UU l m k){i0 v:Int}(h00:0≤i0):∀ (r:Nat) (i x:Int) (t:Tr),i0≤x→x<i→i≤m→W l x t→m - i<r→8 * (m - i)+4≤k→U l m i0 (zaw (z7 k) r l i v t)
 | 0,i,_,_,_,_,h1,_,hr,_=>by omega
 | r+1,i,x,t,hx0,hxi,h1,hW,hr,hf=>by
  rw [zaw];obtain ⟨q,hq,hqe⟩:=z18 hW;refine zbu h (by omega) h1 λ p hp=>zax (λ hb=>?_) λ _=>zax (λ _=>?_) λ _=>zax (λ hb=>?_) λ _=>ze6 hx0 hxi h1 hW
  ·have:=h.sign hp hb;rw [wt hp];refine vj (hU.dim (i+1) _ (by omega) (by omega) (by omega)) λ u j y hy hyj hj hWu=>?_
   refine zhh h hU h00 r j x _ hx0 (by omega) hj ?_ (by omega) (by omega)
   rw [hqe];exact qd hq (by decide) (by decide) wk (qx hW (by omega) hWu (by omega)) (by simp) (by decide)
  ·refine vj (hU.atom i _ (by omega) (by omega) (by omega)) λ u j y hy hyj hj hWu=>?_
   refine zhh h hU h00 r j x _ hx0 (by omega) hj ?_ (by omega) (by omega)
   rw [hqe];exact qd hq (by decide) (by decide) wk (qx hW (by omega) hWu (by omega)) (by simp) (by decide)
  ·have ha:=zuw hb;have:=h.lt hp (.inr ha.1);rw [wt hp];refine vj (hU.term (i+1) _ (by omega) (by omega) (by omega)) λ u j y hy hyj hj hWu=>?_
   refine ze6 hx0 (by omega) hj ?_
   rw [hqe];exact qd hq (by omega) (by omega) wk (qx hW (by omega) hWu (by omega)) (by simp) (by decide)
theorem zn9(h:Toks l m N){k:Nat}(hU:UU l m k){i0 v:Int}(h00:0≤i0):∀ (r:Nat) (i x:Int) (t:Tr),i0≤x→x<i→i≤m→W l x t→m - i<r→8 * (m - i)+1≤k→U l m i0 (zd0 (z7 k) r l i v t)
 | 0,i,_,_,_,_,h1,_,hr,_=>by omega
 | r+1,i,x,t,hx0,hxi,h1,hW,hr,hf=>by
  rw [zd0];obtain ⟨q,hq,hqe⟩:=z18 hW;refine zbu h (by omega) h1 λ p hp=>zax (λ hb=>?_) λ _=>ze6 hx0 hxi h1 hW
  have:=h.sign hp hb;rw [wt hp];refine vj (hU.meet (i+1) _ (by omega) (by omega) (by omega)) λ u j y hy hyj hj hWu=>?_
  refine zn9 h hU h00 r j x _ hx0 (by omega) hj ?_ (by omega) (by omega)
  rw [hqe];exact qd hq (by decide) (by decide) wk (qx hW (by omega) hWu (by omega)) (by simp) (by decide)
theorem zn2(h:Toks l m N){k:Nat}(hU:UU l m k){i0 v:Int}(h00:0≤i0):∀ (r:Nat) (i x:Int) (t:Tr),i0≤x→x<i→i≤m→W l x t→m - i<r→8 * (m - i)+1≤k→U l m i0 (zdz (z7 k) r l i v t)
 | 0,i,_,_,_,_,h1,_,hr,_=>by omega
 | r+1,i,x,t,hx0,hxi,h1,hW,hr,hf=>by
  rw [zdz];obtain ⟨q,hq,hqe⟩:=z18 hW;refine zbu h (by omega) h1 λ p hp=>zax (λ hb=>?_) λ _=>ze6 hx0 hxi h1 hW
  have:=h.sign hp hb;rw [wt hp];refine vj (hU.dim (i+1) _ (by omega) (by omega) (by omega)) λ u j y hy hyj hj hWu=>?_
  refine zn2 h hU h00 r j x _ hx0 (by omega) hj ?_ (by omega) (by omega)
  rw [hqe];exact qd hq (by decide) (by decide) wk (qx hW (by omega) hWu (by omega)) (by simp) (by decide)
theorem zyp(h:Toks l m N){i:Int}{p:Tk3}(hp:zg l i=some p):∃ b,zf4 l i=some b∧(b=true→zr p [40]=true∧i+2<m∧∃ q,zg l (i+1)=some q∧q.1=1):=by
 have h0:=qv hp;unfold zf4;rw [hp,zi];cases hs:zr p [40]
 ·exact ⟨false,rfl,λ h=>by cases h⟩
 ·have hi:=h.sign hp hs;obtain ⟨q,hq⟩:=h.at_ (i+1) (by omega) (by omega)
  rw [p5,hq,zi];cases hk:decide (q.1=1)
  ·exact ⟨false,rfl,λ h=>by cases h⟩
  ·have hi1:=h.nm hq hk;obtain ⟨r,hr⟩:=h.at_ (i+2) (by omega) (by omega)
   rw [p5,hr,zi];refine ⟨_,rfl,λ hb=>⟨rfl,?_,q,rfl,ph hk⟩⟩;by_cases hlt:i+2<m
   ·exact hlt
   ·have:=(h.fin _ r hr (by omega)).2
    rw [this] at hb;exact absurd hb (by decide)
theorem zyu(h:Toks l m N):∀ k,UU l m k
 | 0=>by constructor <;> intros <;> omega
 | k+1=>by
  have hU:=zyu h k;have hs:=h.small;constructor
  ·-- names
   intro i h0 h1 hf;show UN l m i (zdy k l i);unfold zdy;obtain ⟨p,hp⟩:=h.at_ i h0 (by omega)
   rw [hp,zi];cases hk:decide (p.1=1)
   ·exact ⟨_,rfl,⟨i,p,hp,rfl⟩,.inl rfl⟩
   ·have:=h.nm hp hk;rw [p5,wt hp];exact zlb h k (i+1) _ (by omega) (by omega) (by omega) zki (by simp; omega) (by omega)
  ·-- face
   intro i h0 h1 hf;show U l m i (zf2 k l i);unfold zf2;refine zbu h h0 h1 λ p hp=>zax (λ hb=>?_) λ _=>?_
   ·have:=h.sign hp hb;rw [wt hp];exact ze6 (Int.le_refl _) (by omega) (by omega) (qd hp (by decide) (by decide) wk zds (by decide) (by decide))
   ·exact zol h hp (Int.le_refl _) k i [] h0 (Int.le_refl _) h1 zds (by simpa using h0) (by omega)
  ·-- term
   intro i v h0 h1 hf;show U l m i (zfz (z7 k) l i v);unfold zfz;refine zbu h h0 h1 λ p hp=>zax (λ _=>zhn hp (.inr rfl)) λ _=>zax (λ hb=>?_) λ _=>zax (λ hb=>?_) λ _=>?_
   ·have:=h.sign hp hb;rw [wt hp];refine zt7 (hU.names (i+1) (by omega) (by omega) (by omega)) λ ns j hj hjm hn hl=>?_
    refine zd2 h (by omega) hjm λ h2=>?_
    refine vj (hU.term (j+1) _ (by omega) h2 (by omega)) λ t j2 y hy hyj hj2 hWt=>?_
    exact ze6 (Int.le_refl _) (by omega) hj2 (qd hp (by decide) (by decide) hn (zcw hWt (by omega)) (by simp) (by omega))
   ·have:=h.sign hp hb;rw [wt hp];refine zt7 (hU.names (i+1) (by omega) (by omega) (by omega)) λ ns j hj hjm hn hl=>?_
    refine zd2 h (by omega) hjm λ h2=>?_
    refine vj (hU.term (j+1) _ (by omega) h2 (by omega)) λ t j2 y hy hyj hj2 hWt=>?_
    exact ze6 (Int.le_refl _) (by omega) hj2 (qd hp (by decide) (by decide) hn (zcw hWt (by omega)) (by simp) (by omega))
   ·obtain ⟨b,hb,hbt⟩:=zyp h hp;rw [hb,zi];refine zax (λ hb'=>?_) λ _=>?_
    ·obtain ⟨hb1,hb2,q,hq,hq1⟩:=hbt hb';rw [wt hp,hq,zi,wt hq];have e:up (i+1+1)=i+3:=by
      obtain ⟨r,hr⟩:=h.at_ (i+1+1) (by omega) (by omega)
      rw [wt hr]; omega
     rw [e];refine vj (hU.term (i+3) _ (by omega) (by omega) (by omega)) λ a j y hy hyj hj hWa=>?_
     refine zd2 h (by omega) hj λ h2=>?_
     refine zbu h (by omega) h2 λ w hw=>zax (λ hb3=>?_) λ _=>?_
     ·have ha:=zuw hb3;have:=h.lt hw (.inr ha.1);rw [wt hw];refine vj (hU.term (j+1+1) _ (by omega) (by omega) (by omega)) λ t j2 y2 hy2 hyj2 hj2 hWt=>?_
      exact ze6 (Int.le_refl _) (by omega) hj2 (qd hp (by omega) (by omega) zki (qx hWa (by omega) hWt (by omega)) (by simp) (by simp))
     ·have hWx:W l (i+1) ⟨1,q.2.1,[],[],q.2.2⟩:=zqc hq (by decide) (by decide)
      refine hU.after (j+1) _ _ i i h0 (Int.le_refl _) (by omega) h2 ?_ (by omega)
      exact qd hp (by decide) (by decide) wk (qx hWx (by omega) hWa (by omega)) (by simp) (by decide)
    ·refine vj (hU.atom i _ h0 h1 (by omega)) λ t j x hx hxj hj hWt=>?_
     exact hU.after j _ t x i h0 hx hxj hj hWt (by omega)
  ·-- after
   intro i v t x i0 h0 hx hxi h1 hW hf;exact zhh h hU h0 k i x t hx hxi h1 hW (by omega) (by omega)
  ·-- atom
   intro i v h0 h1 hf;show U l m i (zf5 (z7 k) l i v);unfold zf5;refine zbu h h0 h1 λ p hp=>zax (λ hb=>?_) λ _=>zax (λ hb=>?_) λ _=>zax (λ hb=>?_) λ _=>zhn hp (.inl rfl)
   ·have:=h.nm hp hb;rw [wt hp];exact ze6 (Int.le_refl _) (by omega) (by omega) (zqc hp (by decide) (by decide))
   ·exact hU.box i v p h0 h1 hp hb (by omega)
   ·have:=h.sign hp hb;rw [wt hp];refine vj (hU.term (i+1) _ (by omega) (by omega) (by omega)) λ t j x hx hxj hj hWt=>?_
    refine zbu h (by omega) hj λ q hq=>zax (λ hb=>?_) λ _=>zax (λ hb=>?_) λ _=>zax (λ hb=>?_) λ _=>zhn hq (.inl rfl)
    ·have:=h.sign hq hb;rw [wt hq];refine vj (hU.term (j+1) _ (by omega) (by omega) (by omega)) λ u j2 y hy hyj hj2 hWu=>?_
     refine zd2 h (by omega) hj2 λ h2=>?_
     exact ze6 (Int.le_refl _) (by omega) h2 (qd hp (by decide) (by decide) wk (qx hWt (by omega) hWu (by omega)) (by simp) (by decide))
    ·have:=h.sign hq hb;rw [wt hq];refine vj (hU.term (j+1) _ (by omega) (by omega) (by omega)) λ u j2 y hy hyj hj2 hWu=>?_
     refine zd2 h (by omega) hj2 λ h2=>?_
     exact ze6 (Int.le_refl _) (by omega) h2 (qd hp (by decide) (by decide) wk (qx hWt (by omega) hWu (by omega)) (by simp) (by decide))
    ·have:=h.sign hq hb;rw [wt hq];exact ze6 (x:=x) (by omega) (by omega) (by omega) hWt
  ·-- box
   intro i v p h0 h1 hp hb hf;show U l m i (zin (z7 k) k l i v);have:=h.sign hp hb;unfold zin;rw [hp,zi,wt hp];exact zmj h hU hp (Int.le_refl _) h0 k (i+1) [] (by omega) (by omega) zds (by simp; omega) (by omega) (by omega)
  ·-- join
   intro i v h0 h1 hf;show U l m i (zf1 (z7 k) k l i v);unfold zf1;refine vj (hU.meet i _ h0 h1 (by omega)) λ t j x hx hxj hj hWt=>?_
   exact zn9 h hU h0 k j x t hx hxj hj hWt (by omega) (by omega)
  ·-- meet
   intro i v h0 h1 hf;show U l m i (zf0 (z7 k) k l i v);unfold zf0;refine vj (hU.dim i _ h0 h1 (by omega)) λ t j x hx hxj hj hWt=>?_
   exact zn2 h hU h0 k j x t hx hxj hj hWt (by omega) (by omega)
  ·-- dim
   intro i v h0 h1 hf;show U l m i (zil (z7 k) l i v);unfold zil;refine zbu h h0 h1 λ p hp=>zax (λ _=>zhn hp (.inr rfl)) λ _=>zax (λ hb=>?_) λ _=>zax (λ hb=>?_) λ _=>zax (λ hb=>?_) λ _=>zax (λ hb=>?_) λ _=>zhn hp (.inl rfl)
   ·have:=h.nm hp hb;rw [wt hp];exact ze6 (Int.le_refl _) (by omega) (by omega) (zqc hp (by decide) (by decide))
   ·have:i<m:=by
     rcases Bool.or_eq_true _ _ |>.mp hb with h' | h'
     ·exact h.sign hp h'
     ·exact h.sign hp h'
    rw [wt hp];exact ze6 (Int.le_refl _) (by omega) (by omega) (zqc hp (by decide) (by decide))
   ·have:=h.sign hp hb;rw [wt hp];refine vj (hU.dim (i+1) _ (by omega) (by omega) (by omega)) λ t j x hx hxj hj hWt=>?_
    exact ze6 (Int.le_refl _) (by omega) hj (qd hp (by decide) (by decide) wk (zcw hWt (by omega)) (by simp) (by decide))
   ·have:=h.sign hp hb;rw [wt hp];refine vj (hU.join (i+1) _ (by omega) (by omega) (by omega)) λ t j x hx hxj hj hWt=>?_
    refine zd2 h (by omega) hj λ h2=>?_
    exact ze6 (x:=x) (by omega) (by omega) h2 hWt
end
theorem zcn{k k':Int}{t t':List UInt8}{a a':Int}(h:zy k t a=zy k' t' a'):k=k'∧t=t'∧a=a':=by
 cases h; exact ⟨rfl,rfl,rfl⟩
theorem zl9{s:List UInt8}{e:Nat}{l:List D}(h:Cov s e l):∀ (x:Nat) d,l[x]?=some d→∃ k t a,d=zy k t a∧(e:Int)≤a∧a≤s.length∧((x+1<l.length∧(k=1∨k=2))∨(x+1=l.length∧k=0∧t=[])):=by
 induction h with
 | @fin e he hp=>
  intro x d hd;cases x with
  | zero=>simp at hd; subst hd; exact ⟨0,[],_,rfl,by omega,Int.le_refl _,.inr ⟨rfl,rfl,rfl⟩⟩
  | succ x=>simp at hd
 | @tok e j k t rest he hp hlt ho hne hr ih=>
  intro x d hd;have hb:=wu he;rw [hp] at hb;have hr0:=hr.ne;cases x with
  | zero=>
   simp at hd; subst hd;refine ⟨k,t,_,rfl,by omega,by omega,.inl ⟨by simp; omega,?_⟩⟩
   rcases zir ho hne with h | h
   ·exact .inl h.1
   ·exact .inr h.1
  | succ x=>
   obtain ⟨k',t',a,h1,h2,h3,h4⟩:=ih x d (by simpa using hd)
   refine ⟨k',t',a,h1,by omega,h3,?_⟩
   simp only [p7];rcases h4 with h4 | h4
   ·exact .inl ⟨by omega,h4.2⟩
   ·exact .inr ⟨by omega,h4.2⟩
theorem z15{s:List UInt8}{e:Nat}{l:List D}(h:Cov s e l):∀ (x y:Nat) k t a k' t' a',x<y→l[x]?=some (zy k t a)→l[y]?=some (zy k' t' a')→a<a':=by
 induction h with
 | @fin e he hp=>intro x y k t a k' t' a' hxy hx hy; obtain ⟨y,rfl⟩:∃ i,y=i+1:=⟨y - 1,by omega⟩; simp at hy
 | @tok e j k t rest he hp hlt ho hne hr ih=>
  intro x y k1 t1 a k' t' a' hxy hx hy;obtain ⟨y,rfl⟩:∃ i,y=i+1:=⟨y - 1,by omega⟩
  have hy':rest[y]?=some (zy k' t' a'):=by simpa using hy
  cases x with
  | zero=>
   have e1:zy k t (j:Int)=zy k1 t1 a:=by simpa using hx
   obtain ⟨_,_,rfl⟩:=zcn e1;obtain ⟨k2,t2,a2,h1,h2,_⟩:=zl9 hr y _ hy';obtain ⟨_,_,rfl⟩:=zcn h1;have:0<t.length:=List.length_pos_iff.2 hne;omega
  | succ x=>exact ih x y k1 t1 a k' t' a' (by omega) (by simpa using hx) hy'
theorem zsd{l:List D}{x:Nat}{k:Int}{t:List UInt8}{a:Int}(h:l[x]?=some (zy k t a))(hx:x<4294967296):zg l (x:Int)=some (k,t,a):=by
 unfold zg;rw [pb (p:=(0:Int)≤(x:Int)) (by omega),pb (p:=(x:Int)<4294967296) (by omega),Bool.and_self,p5,px,h]
 rfl
theorem zh4{I:List D}{E:D}{x:Int}{p:Tk3}(h:zg (zba (I++[E])) x=some p):0≤x∧∃ y:Nat,(I++[E])[y]?=some (zy p.1 p.2.1 p.2.2)∧((x<I.length∧(y:Int)=x)∨((I.length:Int)≤x∧y=I.length)):=by
 obtain ⟨h0,h1,_,h3⟩:=qv h;refine ⟨h0,?_⟩;rw [zfn] at h3 h1;by_cases hx:x.toNat<I.length
 ·refine ⟨x.toNat,?_,.inl ⟨by omega,by omega⟩⟩
  rw [List.append_assoc,List.getElem?_append_left hx] at h3;rw [List.getElem?_append_left hx]; exact h3
 ·refine ⟨I.length,?_,.inr ⟨by omega,rfl⟩⟩
  rw [List.append_assoc,List.getElem?_append_right (by omega)] at h3
  rw [List.getElem?_concat_length];simp only [pj,p7,p8] at h1;obtain ⟨i,hi⟩:∃ i,x.toNat - I.length=i:=⟨_,rfl⟩;rw [hi] at h3;have:i<3:=by omega
  match i,this with
  | 0,_=>exact h3
  | 1,_=>exact h3
  | 2,_=>exact h3
theorem zzx(I:List D)(E:D)(x:Int)(h0:0≤x)(h1:x≤(I.length:Int)+2):∃ y:Nat,(zba (I++[E]))[x.toNat]?=(I++[E])[y]?∧y<(I++[E]).length:=by
 rw [zfn];by_cases hx:x.toNat<I.length
 ·refine ⟨x.toNat,?_,by simp; omega⟩
  rw [List.append_assoc,List.getElem?_append_left hx,List.getElem?_append_left hx]
 ·refine ⟨I.length,?_,by simp⟩
  rw [List.append_assoc,List.getElem?_append_right (by omega),List.getElem?_concat_length]
  obtain ⟨i,hi⟩:∃ i,x.toNat - I.length=i:=⟨_,rfl⟩;rw [hi];have:i<3:=by omega
  match i,this with
  | 0,_=>rfl
  | 1,_=>rfl
  | 2,_=>rfl
theorem zy1{s:List UInt8}(hs:s.length≤65536){I:List D}{E:D}(h:Cov s 0 (I++[E]))(hl:(I++[E]).length≤65537):Toks (zba (I++[E])) I.length (s.length:Int):=by
 have hlen:(I++[E]).length=I.length+1:=by simp
 constructor
 ·intro x h0 h1;obtain ⟨y,h2,h3⟩:=zzx I E x h0 h1;obtain ⟨k,t,a,h4,_⟩:=zl9 h y _ (p9 h3);rw [p9 h3,h4] at h2;have:=zsd h2 (by omega)
  rw [show ((x.toNat:Nat):Int)=x by omega] at this
  exact ⟨_,this⟩
 ·intro x p hp hx;obtain ⟨h0,y,hy,h1⟩:=zh4 hp;obtain ⟨k,t,a,h4,_,_,h5⟩:=zl9 h y _ hy;obtain ⟨rfl,_,_⟩:=zcn h4;omega
 ·intro x p hp hx;obtain ⟨h0,y,hy,h1⟩:=zh4 hp;obtain ⟨k,t,a,h4,_,_,h5⟩:=zl9 h y _ hy;obtain ⟨rfl,rfl,_⟩:=zcn h4;rcases h5 with h5 | h5
  ·omega
  ·exact h5.2
 ·omega
 ·intro x y p q hp hq hxy;obtain ⟨h0,x',hx',h1⟩:=zh4 hp;obtain ⟨h0',y',hy',h1'⟩:=zh4 hq;by_cases hlt:x'<y'
  ·have:=z15 h x' y' _ _ _ _ _ _ hlt hx' hy'; omega
  ·have:x'=y':=by omega
   subst this;rw [hx'] at hy';obtain ⟨_,_,h6⟩:=zcn (Option.some.inj hy');omega
 ·intro x p hp;obtain ⟨h0,y,hy,h1⟩:=zh4 hp;obtain ⟨k,t,a,h4,h5,h6,_⟩:=zl9 h y _ hy;obtain ⟨_,_,rfl⟩:=zcn h4;exact ⟨by omega,h6⟩
structure Text (s:List UInt8) (I:List D):Prop where
 len:s.length≤65536
 scan:we s=(I++[zy 0 [] (s.length:Int)],0,0)
 cov:Cov s 0 (I++[zy 0 [] (s.length:Int)])
 toks:Toks (zba (I++[zy 0 [] (s.length:Int)])) I.length (s.length:Int)
theorem zt9(s:List UInt8):(∃ I,Text s I)∨(xj s ≠ 0∧∃ p:Nat,qe s=(p:Int)∧p≤s.length):=by
 rcases zdo s with ⟨h1,_,l,h3,h4⟩ | ⟨h1,_,p,h3,h4⟩
 ·obtain ⟨I,rfl⟩:=zr2 h4;have hl:=zkv s;rw [h3] at hl;replace hl:(I++[zy 0 [] (s.length:Int)]).length≤s.length+1:=hl;exact .inl ⟨I,h1,h3,h4,zy1 h1 h4 (by omega)⟩
 ·exact .inr ⟨h1,p,h3,h4⟩
theorem zua{s:List UInt8}{I:List D}(h:Text s I){k:Nat}(hk:600000≤k) :
  (∃ t n,xu k s=some (.ok t)∧xr k (zba (I++[zy 0 [] (s.length:Int)])) 0 1=some (.ok t I.length)∧0<I.length∧∃ x,0≤x∧Wn (zba (I++[zy 0 [] (s.length:Int)])) n x t) ∨
  (∃ a e,xu k s=some (.bad a e)∧0≤a∧a≤s.length∧(e=61∨e=62)):=by
 have hE:xj s=0:=by unfold xj; rw [h.scan]
 have hL:yr s=I++[zy 0 [] (s.length:Int)]:=by unfold yr; rw [h.scan]
 have hT:=h.toks;have hsm:=hT.small;obtain ⟨out,ho,hg⟩:=(zyu hT k).term 0 1 (Int.le_refl _) (by omega) (by have:=hT.small; have:=h.len; have hl:=zkv s; rw [h.scan] at hl; simp at hl; omega)
 unfold xu;rw [hE,pb rfl,p5,hL];change xr k _ 0 1=some out at ho;rw [ho,zi];cases out with
 | ok t j=>
  obtain ⟨x,h1,h2,h3,n,hW⟩:=hg;obtain ⟨q,hq⟩:=hT.at_ j (by omega) (by omega)
  show (∃ t_1 n,za (zg _ j) _=_∧_)∨(∃ a e,za (zg _ j) _=_∧_);rw [hq,zi];by_cases hz:q.1=0
  ·have hj:j=I.length:=by
    by_cases hlt:j<I.length
    ·have:=hT.kind j q hq hlt; omega
    ·omega
   subst hj;refine .inl ⟨t,n,?_,rfl,by omega,x,h1,hW⟩
   rw [pb hz]; rfl
  ·have:=hT.low j q hq;refine .inr ⟨q.2.2,61,?_,this.1,this.2,.inl rfl⟩;rw [pd hz]; rfl
 | bad a e j=>
  obtain ⟨⟨x,p,hp,rfl⟩,he⟩:=hg;have:=hT.low x p hp;exact .inr ⟨p.2.2,e,rfl,this.1,this.2,he⟩
def zw9(x:List UInt8):Prop:=∀ j,xc false x j=j
inductive Lex:List UInt8→List (Int×List UInt8)→Prop
 | nil:Lex [] []
 | blank {r l}:Lex r l→Lex (32::r) l
 | line {r l}:Lex r l→Lex (10::r) l
 | tok {k t r l}:yg (t++r)=(k,t)→t ≠ []→zw9 (t++r)→Lex r l→Lex (t++r) ((k,t)::l)
inductive Er:List D→List (Int×List UInt8)→Prop
 | nil:Er [] []
 | tok {k t a I l}:Er I l→Er (zy k t a::I) ((k,t)::l)
theorem zow{X:List UInt8}{e e':Nat}{l:List D}(h:Cov X e' l)(hp:yl X e=yl X e')(he:e≤X.length):Cov X e l:=by
 cases h with
 | fin h1 h2=>exact .fin he (hp.trans h2)
 | tok h1 h2 h3 h4 h5 h6=>exact .tok he (hp.trans h2) h3 h4 h5 h6
theorem zzj{x:List UInt8}{l:List (Int×List UInt8)}(h:Lex x l):∀ p:List UInt8,∃ I:List D,Cov (p++x) p.length (I++[zy 0 [] ((p++x).length:Int)])∧Er I l:=by
 induction h with
 | nil=>
  intro p;refine ⟨[],.fin (by simp) ?_,.nil⟩
  unfold yl;simp [xc]
 | @blank r l h ih=>
  intro p;obtain ⟨I,h1,h2⟩:=ih (p++[32]);have e:p++[32]++r=p++32::r:=by simp
  have el:(p++[32]).length=p.length+1:=by simp
  rw [e,el] at h1;refine ⟨I,zow h1 ?_ (by simp),h2⟩
  unfold yl;have d1:(p++32::r).drop p.length=32::r:=by simp
  have d2:(p++32::r).drop (p.length+1)=r:=by rw [←e,←el]; simp
  rw [d1,d2];rfl
 | @line r l h ih=>
  intro p;obtain ⟨I,h1,h2⟩:=ih (p++[10]);have e:p++[10]++r=p++10::r:=by simp
  have el:(p++[10]).length=p.length+1:=by simp
  rw [e,el] at h1;refine ⟨I,zow h1 ?_ (by simp),h2⟩
  unfold yl;have d1:(p++10::r).drop p.length=10::r:=by simp
  have d2:(p++10::r).drop (p.length+1)=r:=by rw [←e,←el]; simp
  rw [d1,d2];rfl
 | @tok k t r l ho hne hs h ih=>
  intro p;obtain ⟨I,h1,h2⟩:=ih (p++t);have e:p++t++r=p++(t++r):=by simp
  have el:(p++t).length=p.length+t.length:=by simp
  rw [e,el] at h1;have d1:(p++(t++r)).drop p.length=t++r:=by simp
  have hpos:0<t.length:=List.length_pos_iff.2 hne;refine ⟨zy k t (p.length:Int)::I,.tok (by simp) ?_ (by simp; omega) (by rw [d1]; exact ho) hne h1,.tok h2⟩
  unfold yl;rw [d1];exact hs _
theorem zzi{x:List UInt8}{l:List (Int×List UInt8)}(h:Lex x l):∀ c∈x,c.toNat<128:=by
 induction h with
 | nil=>intro c h; cases h
 | blank _ ih=>
  intro c h;cases h with
  | head=>decide
  | tail _ h=>exact ih c h
 | line _ ih=>
  intro c h;cases h with
  | head=>decide
  | tail _ h=>exact ih c h
 | tok ho hne _ _ ih=>
  intro c h;rcases List.mem_append.1 h with h | h
  ·exact z0w (zir ho hne) c h
  ·exact ih c h
theorem zre{x:List UInt8}{l:List (Int×List UInt8)}(h:Lex x l)(hx:x.length≤65536):∃ I,we x=(I++[zy 0 [] (x.length:Int)],0,0)∧Er I l:=by
 obtain ⟨I,h1,h2⟩:=zzj h [];refine ⟨I,?_,h2⟩;unfold we;rw [pd (by omega),p6,zt6 _ _ _ (Nat.le_refl _) (zzi h)]
 have hb:=wu (s:=x) (j:=0) (Nat.zero_le _);have:=zyj h1 (x.length+1) [] (by simp; omega)
 simpa using this
def LQ(s:List UInt8)(ks:List (Int×List UInt8)):Prop:=∀ r l,Lex r l→Lex (s++r) (ks++l)
def fol(r:List UInt8):Prop:=∀ c∈r.head?,(yq (c.toNat:Int)||wl (c.toNat:Int))=false
def LP1(s:List UInt8)(ks:List (Int×List UInt8)):Prop:=∀ r l,fol r→Lex r l→Lex (s++r) (ks++l)
theorem qr(c:UInt8)(h:∀ r,yg (c::r)=(2,[c]))(hs:∀ r,zw9 (c::r)):LQ [c] [(2,[c])]:=λ r _ hr=>.tok (h r) (by simp) (hs r) hr
theorem zxm:LQ [45,62] [(2,[45,62])]:=λ r l hr=>Lex.tok (k:=2) (t:=[45,62]) (r:=r) rfl (by simp) (λ j=>by rfl) hr
theorem z1f:LQ [47,92] [(2,[47,92])]:=λ r l hr=>Lex.tok (k:=2) (t:=[47,92]) (r:=r) rfl (by simp) (λ j=>by rfl) hr
theorem zs2:LQ [40] [(2,[40])]:=qr 40 (λ _=>rfl) λ _ _=>rfl
theorem zs1:LQ [41] [(2,[41])]:=qr 41 (λ _=>rfl) λ _ _=>rfl
theorem z4y:LQ [91] [(2,[91])]:=qr 91 (λ _=>rfl) λ _ _=>rfl
theorem z4x:LQ [93] [(2,[93])]:=qr 93 (λ _=>rfl) λ _ _=>rfl
theorem zvk:LQ [46] [(2,[46])]:=qr 46 (λ _=>rfl) λ _ _=>rfl
theorem z29:LQ [58] [(2,[58])]:=qr 58 (λ _=>rfl) λ _ _=>rfl
theorem z4z:LQ [61] [(2,[61])]:=qr 61 (λ _=>rfl) λ _ _=>rfl
theorem zxo:LQ [60] [(2,[60])]:=qr 60 (λ _=>rfl) λ _ _=>rfl
theorem zxn:LQ [62] [(2,[62])]:=qr 62 (λ _=>rfl) λ _ _=>rfl
theorem z26:LQ [64] [(2,[64])]:=qr 64 (λ _=>rfl) λ _ _=>rfl
theorem z3a:LQ [126] [(2,[126])]:=qr 126 (λ _=>rfl) λ _ _=>rfl
theorem z41:LQ [42] [(2,[42])]:=qr 42 (λ _=>rfl) λ _ _=>rfl
theorem z40:LQ [48] [(2,[48])]:=qr 48 (λ _=>rfl) λ _ _=>rfl
theorem zld:∀ (t r:List UInt8) (j:Nat),0<j→(∀ c∈t,(yq (c.toNat:Int)||wl (c.toNat:Int))=true)→fol r→y7 (t++r) j=j+t.length
 | [],r,j,hj,_,hr=>by
  cases r with
  | nil=>rfl
  | cons c r=>
   have:=hr c rfl;rw [List.nil_append,y7,pb hj,Bool.true_and,this];rfl
 | b::t,r,j,hj,ht,hr=>by
  have hb:=ht b py;have ih:=zld t r (j+1) (by omega) (λ c hc=>ht c (p0 _ hc)) hr
  rw [List.cons_append,y7,pb hj,Bool.true_and,hb,p5,ih,p7]; omega
theorem zpn{b:UInt8}(h:yq (b.toNat:Int)=true)(r:List UInt8):zw9 (b::r):=by
 intro j;have hl:(97≤(b.toNat:Int)∧(b.toNat:Int)≤122)∨(65≤(b.toNat:Int)∧(b.toNat:Int)≤90)∨(b.toNat:Int)=95:=by
  simp only [yq,Bool.or_eq_true,pq,decide_eq_true_eq] at h;omega
 have h1:zbb (b.toNat:Int)=false:=by
  unfold zbb;rw [pd (by omega),pd (by omega),pd (by omega),pd (by omega)]; rfl
 rw [xc,h1,p6,pd (by omega),Bool.false_and,p6]
def zb0(s:List UInt8):Prop:=∃ b t,s=b::t∧yq (b.toNat:Int)=true∧∀ c∈t,(yq (c.toNat:Int)||wl (c.toNat:Int))=true
theorem zul{s:List UInt8}(h:zb0 s):LP1 s [(1,s)]:=by
 intro r l hf hr;obtain ⟨b,t,rfl,hb,ht⟩:=h;have hn:yt ((b::t)++r)=t.length+1:=by
  unfold yt;rw [List.cons_append,y7,hb,Bool.true_or,p5,zld t r (0+1) (by omega) ht hf]; omega
 refine Lex.tok (k:=1) (t:=b::t) ?_ (by simp) (zpn hb _) hr
 unfold yg;rw [hn,pb (by omega),p5]
 have:((b::t)++r).take (t.length+1)=b::t:=by
  rw [show t.length+1=(b::t).length from rfl,List.take_left'];rfl
 rw [this]
theorem zy9{b:UInt8}(h:yq (b.toNat:Int)=true)(r:List UInt8):yg (92::b::r)=(2,[92]):=by
 have hb:b ≠ 47:=by rintro rfl; exact absurd h (by decide)
 unfold yg;have h1:yt (92::b::r)=0:=rfl;have h2:zn (92::b::r) [92,47]=false:=by
  unfold zn;exact pd (by simpa using hb)
 rw [h1];show z6 (92::b::r) v6=_;have e:v6=[45,62]::[47,92]::[92,47]::v6.drop 3:=rfl;rw [e,z6,z6,z6,h2];rfl
end Go.Vai
end
section
namespace Go.Proofs
open Go.Shelf
def Tryz.growS_ren:Go.Shelf.Ren:=⟨λ | 4=>165 | n=>n,λ | 22=>23 | 25=>9 | 3=>3 | 4=>4 | 9=>9 | 20=>20 | 0=>0 | n=>n,λ | n=>n⟩
theorem Tryz.growS:Go.Proofs.Lays8.n4 Tryz.prog Tryz.growS_ren:={
 mixed:=by kernel_rfl
 f4:=⟨Tryz.f165.name,by decide,Tryz.func165.trans (congrArg some (by kernel_rfl))⟩
 t0:=Tryz.underlying0
 a0:=Tryz.isAgg0
 z0:=Tryz.sizeOf0
 v0:=Tryz.zeroValue0
 t3:=Tryz.underlying3
 a3:=Tryz.isAgg3
 z3:=Tryz.sizeOf3
 v3:=Tryz.zeroValue3
 t4:=Tryz.underlying4
 a4:=Tryz.isAgg4
 z4:=Tryz.sizeOf4
 v4:=Tryz.zeroValue4
 t9:=Tryz.underlying9
 a9:=Tryz.isAgg9
 z9:=Tryz.sizeOf9
 v9:=Tryz.zeroValue9
 t20:=Tryz.underlying20
 a20:=Tryz.isAgg20
 z20:=Tryz.sizeOf20
 v20:=Tryz.zeroValue20
 t22:=Tryz.underlying23
 a22:=Tryz.isAgg23
 z22:=Tryz.sizeOf23
 v22:=Tryz.zeroValue23 }
def Tryz.lays169_ren:Go.Shelf.Ren:=⟨λ | 169=>164 | n=>n,λ | 70=>173 | 9=>9 | 0=>0 | 72=>176 | 37=>174 | 127=>232 | 3=>3 | 5=>5 | n=>n,λ | n=>n⟩
theorem Tryz.lays169:Go.Proofs.Lays.n169 Tryz.prog Tryz.lays169_ren:={
 mixed:=by kernel_rfl
 f169:=Tryz.func164.trans (congrArg some (by kernel_rfl))
 t0:=Tryz.underlying0
 a0:=Tryz.isAgg0
 z0:=Tryz.sizeOf0
 v0:=Tryz.zeroValue0
 t3:=Tryz.underlying3
 a3:=Tryz.isAgg3
 z3:=Tryz.sizeOf3
 v3:=Tryz.zeroValue3
 t9:=Tryz.underlying9
 a9:=Tryz.isAgg9
 z9:=Tryz.sizeOf9
 v9:=Tryz.zeroValue9
 t37:=Tryz.underlying174
 a37:=Tryz.isAgg174
 z37:=Tryz.sizeOf174
 v37:=Tryz.zeroValue174
 t70:=Tryz.underlying173
 a70:=Tryz.isAgg173
 z70:=Tryz.sizeOf173
 v70:=Tryz.zeroValue173
 t72:=Tryz.underlying176
 a72:=Tryz.isAgg176
 z72:=Tryz.sizeOf176
 v72:=Tryz.zeroValue176
 t127:=Tryz.underlying232
 a127:=Tryz.isAgg232
 z127:=Tryz.sizeOf232
 v127:=Tryz.zeroValue232 }
theorem Tryz.Builder_Extra_169:Builder.Extra Tryz.prog Tryz.lays169_ren:={
 sizeBuilder:=by kernel_rfl
 liesBuilder:=by kernel_rfl
 t5:=Tryz.underlying5
 a5:=Tryz.isAgg5
 z5:=Tryz.sizeOf5
 v5:=Tryz.zeroValue5
 infoByte:=by kernel_rfl
 cellsByte:=by kernel_rfl
 sizeByte:=by kernel_rfl
 neB5:=by decide }
open Go.RowKit in
def Tryz.lays156_ren:Go.Shelf.Ren:=⟨λ | 156=>192 | 165=>215 | 166=>159 | 169=>164 | 240=>191 | 241=>231 | 276=>214 | 277=>242 | n=>n,λ | 31=>23 | 9=>9 | 3=>3 | 4=>4 | 0=>0 | 20=>20 | 72=>176 | 76=>204 | 70=>173 | 37=>174 | 75=>203 | 127=>232 | 164=>237 | 5=>5 | 80=>155 | n=>n,λ | n=>n⟩
theorem Tryz.lays156:Go.Proofs.Lays.n156 Tryz.prog Tryz.lays156_ren:={
 mixed:=by kernel_rfl
 f156:=Tryz.func192.trans (congrArg some (by kernel_rfl))
 f165:=Tryz.func215.trans (congrArg some (by kernel_rfl))
 f166:=Tryz.func159.trans (congrArg some (by kernel_rfl))
 f169:=Tryz.func164.trans (congrArg some (by kernel_rfl))
 f240:=Tryz.func191.trans (congrArg some (by kernel_rfl))
 f241:=Tryz.func231.trans (congrArg some (by kernel_rfl))
 f276:=Tryz.func214.trans (congrArg some (by kernel_rfl))
 f277:=Tryz.func242.trans (congrArg some (by kernel_rfl))
 t0:=Tryz.underlying0
 a0:=Tryz.isAgg0
 z0:=Tryz.sizeOf0
 v0:=Tryz.zeroValue0
 t3:=Tryz.underlying3
 a3:=Tryz.isAgg3
 z3:=Tryz.sizeOf3
 v3:=Tryz.zeroValue3
 t4:=Tryz.underlying4
 a4:=Tryz.isAgg4
 z4:=Tryz.sizeOf4
 v4:=Tryz.zeroValue4
 t9:=Tryz.underlying9
 a9:=Tryz.isAgg9
 z9:=Tryz.sizeOf9
 v9:=Tryz.zeroValue9
 t20:=Tryz.underlying20
 a20:=Tryz.isAgg20
 z20:=Tryz.sizeOf20
 v20:=Tryz.zeroValue20
 t31:=Tryz.underlying23
 a31:=Tryz.isAgg23
 z31:=Tryz.sizeOf23
 v31:=Tryz.zeroValue23
 t37:=Tryz.underlying174
 a37:=Tryz.isAgg174
 z37:=Tryz.sizeOf174
 v37:=Tryz.zeroValue174
 t70:=Tryz.underlying173
 a70:=Tryz.isAgg173
 z70:=Tryz.sizeOf173
 v70:=Tryz.zeroValue173
 t72:=Tryz.underlying176
 a72:=Tryz.isAgg176
 z72:=Tryz.sizeOf176
 v72:=Tryz.zeroValue176
 t75:=Tryz.underlying203
 a75:=Tryz.isAgg203
 z75:=Tryz.sizeOf203
 v75:=Tryz.zeroValue203
 t76:=Tryz.underlying204
 a76:=Tryz.isAgg204
 z76:=Tryz.sizeOf204
 v76:=Tryz.zeroValue204
 t127:=Tryz.underlying232
 a127:=Tryz.isAgg232
 z127:=Tryz.sizeOf232
 v127:=Tryz.zeroValue232
 t164:=Tryz.underlying237
 a164:=Tryz.isAgg237
 z164:=Tryz.sizeOf237
 v164:=Tryz.zeroValue237 }
theorem Tryz.Builder_Extra_156:Builder.Extra Tryz.prog Tryz.lays156_ren:={
 sizeBuilder:=by kernel_rfl
 liesBuilder:=by kernel_rfl
 t5:=Tryz.underlying5
 a5:=Tryz.isAgg5
 z5:=Tryz.sizeOf5
 v5:=Tryz.zeroValue5
 infoByte:=by kernel_rfl
 cellsByte:=by kernel_rfl
 sizeByte:=by kernel_rfl
 neB5:=by decide }
open Go.RowKit in
theorem Tryz.strings_Join_none(a:Option Addr)(c:Nat)(sep:ByteArray)(w:World) :
  Calls Tryz.prog 192 #[.slice a 0 c,.string sep] w λ e w'=>e=.returned (.string ⟨#[]⟩)∧w'=w:=Any.strings_Join_none Tryz.lays156 Tryz.Builder_Extra_156 a c sep w
open Go.RowKit in
theorem Tryz.strings_Join(bk o c:Nat)(xs:List ByteArray)(sep:ByteArray)(w:World)(hcells:∀ (j:Nat) x,xs[j]?=some x→w.cell? ⟨bk,o+j,none⟩=some (.string x))(hbk:bk<w.heap.size)(hN:xs.length≤140737488355328)(hcap:xs.length≤c)(hlen:(Lib.join (xs.map (·.data.toList)) sep.data.toList).length≤140737488355328) :
  Calls Tryz.prog 192 #[.slice (some ⟨bk,o,none⟩) xs.length c,.string sep] w λ e w'=>e=.returned (.string ⟨(Lib.join (xs.map (·.data.toList)) sep.data.toList).toArray⟩)∧Below w.heap.size w w':=Any.strings_Join Tryz.lays156 Tryz.Builder_Extra_156 bk o c xs sep w hcells hbk hN hcap hlen
def Tryz.lays189_ren:Go.Shelf.Ren:=⟨λ | 189=>49 | 125=>86 | 257=>85 | 128=>124 | 129=>125 | 294=>115 | 295=>116 | 296=>117 | 297=>118 | 298=>119 | 299=>120 | 216=>121 | 300=>122 | 301=>123 | 328=>152 | 329=>153 | 330=>154 | 331=>155 | 332=>156 | 215=>157 | 343=>190 | n=>n,λ | 28=>47 | 3=>3 | 46=>140 | 0=>0 | 51=>78 | 53=>44 | 4=>4 | 183=>164 | 182=>163 | 131=>102 | 5=>5 | 9=>9 | 218=>196 | 222=>200 | 228=>229 | 229=>230 | n=>n,λ | n=>n⟩
theorem Tryz.lays189:Go.Proofs.Lays.n189 Tryz.prog Tryz.lays189_ren:={
 mixed:=by kernel_rfl
 f125:=Tryz.func86.trans (congrArg some (by kernel_rfl))
 f128:=Tryz.func124.trans (congrArg some (by kernel_rfl))
 f129:=Tryz.func125.trans (congrArg some (by kernel_rfl))
 f189:=Tryz.func49.trans (congrArg some (by kernel_rfl))
 f215:=Tryz.func157.trans (congrArg some (by kernel_rfl))
 f216:=Tryz.func121.trans (congrArg some (by kernel_rfl))
 f257:=Tryz.func85.trans (congrArg some (by kernel_rfl))
 f294:=Tryz.func115.trans (congrArg some (by kernel_rfl))
 f295:=Tryz.func116.trans (congrArg some (by kernel_rfl))
 f296:=Tryz.func117.trans (congrArg some (by kernel_rfl))
 f297:=Tryz.func118.trans (congrArg some (by kernel_rfl))
 f298:=Tryz.func119.trans (congrArg some (by kernel_rfl))
 f299:=Tryz.func120.trans (congrArg some (by kernel_rfl))
 f300:=Tryz.func122.trans (congrArg some (by kernel_rfl))
 f301:=Tryz.func123.trans (congrArg some (by kernel_rfl))
 f328:=Tryz.func152.trans (congrArg some (by kernel_rfl))
 f329:=Tryz.func153.trans (congrArg some (by kernel_rfl))
 f330:=Tryz.func154.trans (congrArg some (by kernel_rfl))
 f331:=Tryz.func155.trans (congrArg some (by kernel_rfl))
 f332:=Tryz.func156.trans (congrArg some (by kernel_rfl))
 f343:=Tryz.func190.trans (congrArg some (by kernel_rfl))
 t0:=Tryz.underlying0
 a0:=Tryz.isAgg0
 z0:=Tryz.sizeOf0
 v0:=Tryz.zeroValue0
 t3:=Tryz.underlying3
 a3:=Tryz.isAgg3
 z3:=Tryz.sizeOf3
 v3:=Tryz.zeroValue3
 t4:=Tryz.underlying4
 a4:=Tryz.isAgg4
 z4:=Tryz.sizeOf4
 v4:=Tryz.zeroValue4
 t5:=Tryz.underlying5
 a5:=Tryz.isAgg5
 z5:=Tryz.sizeOf5
 v5:=Tryz.zeroValue5
 t9:=Tryz.underlying9
 a9:=Tryz.isAgg9
 z9:=Tryz.sizeOf9
 v9:=Tryz.zeroValue9
 t28:=Tryz.underlying47
 a28:=Tryz.isAgg47
 z28:=Tryz.sizeOf47
 v28:=Tryz.zeroValue47
 t46:=Tryz.underlying140
 a46:=Tryz.isAgg140
 z46:=Tryz.sizeOf140
 v46:=Tryz.zeroValue140
 t51:=Tryz.underlying78
 a51:=Tryz.isAgg78
 z51:=Tryz.sizeOf78
 v51:=Tryz.zeroValue78
 t53:=Tryz.underlying44
 a53:=Tryz.isAgg44
 z53:=Tryz.sizeOf44
 v53:=Tryz.zeroValue44
 t131:=Tryz.underlying102
 a131:=Tryz.isAgg102
 z131:=Tryz.sizeOf102
 v131:=Tryz.zeroValue102
 t182:=Tryz.underlying163
 a182:=Tryz.isAgg163
 z182:=Tryz.sizeOf163
 v182:=Tryz.zeroValue163
 t183:=Tryz.underlying164
 a183:=Tryz.isAgg164
 z183:=Tryz.sizeOf164
 v183:=Tryz.zeroValue164
 t218:=Tryz.underlying196
 a218:=Tryz.isAgg196
 z218:=Tryz.sizeOf196
 v218:=Tryz.zeroValue196
 t222:=Tryz.underlying200
 a222:=Tryz.isAgg200
 z222:=Tryz.sizeOf200
 v222:=Tryz.zeroValue200
 t228:=Tryz.underlying229
 a228:=Tryz.isAgg229
 z228:=Tryz.sizeOf229
 v228:=Tryz.zeroValue229
 t229:=Tryz.underlying230
 a229:=Tryz.isAgg230
 z229:=Tryz.sizeOf230
 v229:=Tryz.zeroValue230 }
open Go.Sort Go.RowKit in
theorem Tryz.slices_Sort_int(blk off cap:Nat)(zs:List Int)(w:World)(hH:Holds (Value.int .i64) w blk off zs.toArray)(hblk:blk<w.heap.size)(hsz:zs.length<4611686018427387904) :
  Calls Tryz.prog 49 #[.slice (some ⟨blk,off,none⟩) zs.length cap] w λ e w'=>
   e=.returned (.tuple #[])∧∃ n os,w'=grow (putRow (Value.int .i64) (Sort.ahead w n) blk off (zs.mergeSort λ x y=>decide (x≤y)).toArray) os:=Any.slices_Sort_int Tryz.lays189 blk off cap zs w hH hblk hsz
def Tryz.laysNm216_ren:Go.Shelf.Ren:=⟨λ | 16=>99 | n=>n,λ | 24=>23 | 9=>9 | 4=>4 | n=>n,λ | n=>n⟩
theorem Tryz.laysNm216:Go.Proofs.Lays2.n16 Tryz.prog Tryz.laysNm216_ren:={
 mixed:=by kernel_rfl
 f16:=Tryz.func99.trans (congrArg some (by kernel_rfl))
 t4:=Tryz.underlying4
 a4:=Tryz.isAgg4
 z4:=Tryz.sizeOf4
 v4:=Tryz.zeroValue4
 t9:=Tryz.underlying9
 a9:=Tryz.isAgg9
 z9:=Tryz.sizeOf9
 v9:=Tryz.zeroValue9
 t24:=Tryz.underlying23
 a24:=Tryz.isAgg23
 z24:=Tryz.sizeOf23
 v24:=Tryz.zeroValue23
 i9:=by kernel_rfl }
open Go.RowKit Go.Lib in
theorem Tryz.slices_Clone_string(b off n c:Nat)(zs:List ByteArray)(w:World)(hz:n≤zs.length)(hbig:n * 16≤140737488355328)(hc:∀ j,j<zs.length→w.cell? ⟨b,off+j,none⟩=some (.string (zs.getD j ByteArray.empty))) :
  Calls Tryz.prog 99 #[.slice (some ⟨b,off,none⟩) n c] w λ e w'=>∃ v',e=.returned v'∧w'.ownsRow w.heap.size 9 1 v' n ((zs.take n).map (Value.string))∧v' ≠ .slice none 0 0∧Below w.heap.size w w':=Any.slices_Clone_string Tryz.laysNm216 b off n c zs w hz hbig hc
open Go.RowKit Go.Lib in
theorem Tryz.slices_Clone_string_nil(n c:Nat)(w:World) :
  Calls Tryz.prog 99 #[.slice none n c] w λ e w'=>e=.returned (.slice none 0 0)∧w'=w:=Any.slices_Clone_string_nil Tryz.laysNm216 n c w
open Go.RowKit Go.Lib in
theorem Tryz.slices_Clone_string_zero(a:Addr)(c:Nat)(w:World) :
  Calls Tryz.prog 99 #[.slice (some a) 0 c] w λ e w'=>∃ v',e=.returned v'∧w'.ownsRow w.heap.size 9 1 v' 0 []∧v' ≠ .slice none 0 0∧Below w.heap.size w w':=Any.slices_Clone_string_zero Tryz.laysNm216 a c w
end Go.Proofs
end
