/-
  Tree: what the reader's great functions answer, as plain functions by fuel. To: The library's contracts that are leaned on, at this program: strings.Builder's String, strings.Join, slices.Sort, slices.Clone, slices.Grow.
-/
import Derived.Test.YtmolcgfhgdhgoaaGreatDoorSliPart1
import Derived.Shelf.Spec.SlicesGrow
import Derived.Shelf.Strings.Builder1
import Derived.Shelf.Strings.Builder2
import Derived.Shelf.Strings.OnBuilder
import Derived.Shelf.Strings.BuilderF
import Derived.Shelf.Strings.BuilderK
import Derived.Shelf.Strings.Builder2Cap
import Derived.Shelf.Sort.Plain
import Derived.Shelf.Slices.Clone
import Derived.Test.YtmolcgfhgdhgoaaGreatDoorProg
set_option linter.all false
noncomputable section
namespace Go.Vai
open Go.Proofs
structure Tr where
 k:Int
 nm:List UInt8
 kids:List D
 nms:List D
 pl:Int
instance:Inhabited Tr:=⟨⟨0,[],[],[],0⟩⟩
def trD(t:Tr):D:=.agg [.int .i64 t.k,.str t.nm,.sl 5 t.kids,.sl 1 t.nms,.int .i64 t.pl]
inductive PR where
 | ok (t:Tr) (j:Int)
 | bad (a e j:Int)
def yp:PR→Bool | .ok _ _=>true | _=>false
def zb:PR→Tr | .ok t _=>t | _=>default
def zn:PR→Int | .ok _ j=>j | .bad _ _ j=>j
def yt:PR→Int | .bad a _ _=>a | _=>0
def xj:PR→Int | .bad _ e _=>e | _=>0
inductive PN where
 | ok (l:List D) (j:Int)
 | bad (a e j:Int)
def zi4:PN→Bool | .ok _ _=>true | _=>false
def zoq:PN→List D | .ok l _=>l | _=>[]
def w5:PN→Int | .ok _ j=>j | .bad _ _ j=>j
def zgd:PN→Int | .bad a _ _=>a | _=>0
def zi6:PN→Int | .bad _ e _=>e | _=>0
def ym(o:Option PR)(K:Tr→Int→Option PR):Option PR:=zc o λ p=>bif yp p then K (zb p) (zn p) else some (.bad (yt p) (xj p) (zn p))
def zh9(o:Option PN)(K:List D→Int→Option PR):Option PR:=zc o λ p=>bif zi4 p then K (zoq p) (w5 p) else some (.bad (zgd p) (zi6 p) (w5 p))
def wb(l:List D)(i:Int)(s:List UInt8)(K:Int→Option PR):Option PR:=zc (zg l i) λ p=>bif zq p s then K (up i) else some (.bad p.2.2 61 i)
def zh7(l:List D)(i:Int)(K:List UInt8→Int→Option PR):Option PR:=zc (zg l i) λ p=>bif decide (p.1=1) then K p.2.1 (up i) else some (.bad p.2.2 61 i)
structure Tb where
 names:List D→Int→Option PN
 face:List D→Int→Option PR
 term:List D→Int→Int→Option PR
 after:List D→Int→Int→Tr→Option PR
 atom:List D→Int→Int→Option PR
 box:List D→Int→Int→Option PR
 join:List D→Int→Int→Option PR
 meet:List D→Int→Int→Option PR
 dim:List D→Int→Int→Option PR
def vy(l:List D):Bool:=decide (l.length<4294967296)
def zcg:Nat→List D→Int→List D→Option PN
 | 0,_,_,_=>none
 | r+1,l,i,ns=>zc (zg l i) λ p=>bif decide (p.1=1) then zh (vy ns) (zcg r l (up i) (ns++[.str p.2.1])) else some (.ok ns i)
def zds(r:Nat)(l:List D)(i:Int):Option PN:=zc (zg l i) λ p=>bif decide (p.1=1) then zcg r l (up i) [.str p.2.1] else some (.bad p.2.2 61 i)
def zfs(g:Tb)(l:List D)(i v:Int):Option PR:=zc (zg l i) λ p=>
 bif decide (200<v) then some (.bad p.2.2 62 i)
 else bif zq p [92] then zh9 (g.names l (up i)) λ ns j=>wb l j [46] λ j=>ym (g.term l j (up v)) λ t j=>some (.ok ⟨2,[],[trD t],ns,p.2.2⟩ j)
 else bif zq p [60] then zh9 (g.names l (up i)) λ ns j=>wb l j [62] λ j=>ym (g.term l j (up v)) λ t j=>some (.ok ⟨3,[],[trD t],ns,p.2.2⟩ j)
 else zc (zfy l i) λ b=>bif b
  then zc (zg l (up i)) λ x=>ym (g.term l (up (up (up i))) (up v)) λ a j=>wb l j [41] λ j=>zc (zg l j) λ q=>
   bif !decide (za8 q=0) then ym (g.term l (up j) (up v)) λ t j=>some (.ok ⟨za8 q,[],[trD a,trD t],[.str x.2.1],p.2.2⟩ j)
   else g.after l j v ⟨9,[],[trD ⟨1,x.2.1,[],[],x.2.2⟩,trD a],[],p.2.2⟩
  else ym (g.atom l i v) λ t j=>g.after l j v t
def zat(g:Tb):Nat→List D→Int→Int→Tr→Option PR
 | 0,_,_,_,_=>none
 | r+1,l,i,v,t=>zc (zg l i) λ p=>
  bif zq p [64] then ym (g.dim l (up i) (up v)) λ u j=>zat g r l j v ⟨7,[],[trD t,trD u],[],t.pl⟩
  else bif decide (p.1=1)||zq p [40]||zq p [91] then ym (g.atom l i v) λ u j=>zat g r l j v ⟨6,[],[trD t,trD u],[],t.pl⟩
  else bif !decide (za8 p=0) then ym (g.term l (up i) (up v)) λ u j=>some (.ok ⟨za8 p,[],[trD t,trD u],[],t.pl⟩ j)
  else some (.ok t i)
def zfz(g:Tb)(l:List D)(i v:Int):Option PR:=zc (zg l i) λ p=>
 bif decide (p.1=1) then some (.ok ⟨1,p.2.1,[],[],p.2.2⟩ (up i))
 else bif zq p [91] then g.box l i v
 else bif zq p [40] then ym (g.term l (up i) (up v)) λ t j=>zc (zg l j) λ q=>
  bif zq q [44] then ym (g.term l (up j) (up v)) λ u j=>wb l j [41] λ j=>some (.ok ⟨8,[],[trD t,trD u],[],p.2.2⟩ j)
  else bif zq q [58] then ym (g.term l (up j) (up v)) λ u j=>wb l j [41] λ j=>some (.ok ⟨9,[],[trD t,trD u],[],p.2.2⟩ j)
  else bif zq q [41] then some (.ok t (up j)) else some (.bad q.2.2 61 j)
 else some (.bad p.2.2 61 i)
def zmq(kids l:List D)(i:Int)(K:Int→Option PR):Option PR:=bif decide ((0:Int)<(kids.length:Int)) then wb l i [44] K else K i
def zb7(g:Tb):Nat→List D→Int→Int→List D→Int→Option PR
 | 0,_,_,_,_,_=>none
 | r+1,l,i,v,kids,a=>zc (zg l i) λ p=>
  bif zq p [93] then some (.ok ⟨10,[],kids,[],a⟩ (up i))
  else zmq kids l i λ j=>zc (zg l j) λ q=>ym (g.face l j) λ f j=>zc (zg l j) λ u=>
   bif zq u [45,62] then ym (g.term l (up j) (up v)) λ t j=>zh (vy kids) (zb7 g r l j v (kids++[trD ⟨11,[],[trD f,trD t],[],q.2.2⟩]) a)
   else zh (vy kids) (zb7 g r l j v (kids++[trD ⟨11,[],[trD f],[],q.2.2⟩]) a)
def zia(g:Tb)(r:Nat)(l:List D)(i v:Int):Option PR:=zc (zg l i) λ p=>zb7 g r l (up i) v [] p.2.2
def zdv:Nat→List D→Int→List D→Int→Option PR
 | 0,_,_,_,_=>none
 | r+1,l,i,kids,a=>zc (zg l i) λ p=>
  bif zq p [40] then zh7 l (up i) λ s j=>wb l j [61] λ j=>zc (zg l j) λ q=>
   bif zq q [48]||zq q [49] then wb l (up j) [41] λ j=>zh (vy kids) <| zc (zg l j) λ u=>
    bif zq u [40] then zdv r l j (kids++[trD ⟨13,s,[],[.str q.2.1],p.2.2⟩]) a
    else some (.ok ⟨12,[],kids++[trD ⟨13,s,[],[.str q.2.1],p.2.2⟩],[],a⟩ j)
   else some (.bad q.2.2 61 j)
  else some (.bad p.2.2 61 i)
def zfw(r:Nat)(l:List D)(i:Int):Option PR:=zc (zg l i) λ p=>bif zq p [49] then some (.ok ⟨12,[],[],[],p.2.2⟩ (up i)) else zdv r l i [] p.2.2
def zdu(g:Tb):Nat→List D→Int→Int→Tr→Option PR
 | 0,_,_,_,_=>none
 | r+1,l,i,v,t=>zc (zg l i) λ p=>bif zq p [92,47] then ym (g.meet l (up i) v) λ u j=>zdu g r l j v ⟨14,[],[trD t,trD u],[],t.pl⟩ else some (.ok t i)
def zfv(g:Tb)(r:Nat)(l:List D)(i v:Int):Option PR:=ym (g.meet l i v) λ t j=>zdu g r l j v t
def zdt(g:Tb):Nat→List D→Int→Int→Tr→Option PR
 | 0,_,_,_,_=>none
 | r+1,l,i,v,t=>zc (zg l i) λ p=>bif zq p [47,92] then ym (g.dim l (up i) v) λ u j=>zdt g r l j v ⟨15,[],[trD t,trD u],[],t.pl⟩ else some (.ok t i)
def zfu(g:Tb)(r:Nat)(l:List D)(i v:Int):Option PR:=ym (g.dim l i v) λ t j=>zdt g r l j v t
def zh8(g:Tb)(l:List D)(i v:Int):Option PR:=zc (zg l i) λ p=>
 bif decide (200<v) then some (.bad p.2.2 62 i)
 else bif decide (p.1=1) then some (.ok ⟨1,p.2.1,[],[],p.2.2⟩ (up i))
 else bif zq p [48]||zq p [49] then some (.ok ⟨17,p.2.1,[],[],p.2.2⟩ (up i))
 else bif zq p [126] then ym (g.dim l (up i) (up v)) λ t j=>some (.ok ⟨16,[],[trD t],[],p.2.2⟩ j)
 else bif zq p [40] then ym (g.join l (up i) (up v)) λ t j=>wb l j [41] λ j=>some (.ok t j)
 else some (.bad p.2.2 61 i)
def zmp(g:Tb)(l:List D)(i:Int):Option PR:=zc (zg l i) λ p=>zh7 l i λ s j=>wb l j [58] λ j=>ym (g.term l j 1) λ a j=>wb l j [61] λ j=>ym (g.term l j 1) λ t j=>wb l j [59] λ j=>some (.ok ⟨18,s,[trD a,trD t],[],p.2.2⟩ j)
def zz:Nat→Tb
 | 0=>⟨λ _ _=>none,λ _ _=>none,λ _ _ _=>none,λ _ _ _ _=>none,λ _ _ _=>none,λ _ _ _=>none,λ _ _ _=>none,λ _ _ _=>none,λ _ _ _=>none⟩
 | k+1=>⟨zds k,zfw k,zfs (zz k),zat (zz k) k,zfz (zz k),zia (zz k) k,zfv (zz k) k,zfu (zz k) k,zh8 (zz k)⟩
def zh6(k:Nat)(l:List D)(i:Int):Option PN:=(zz k).names l i
def zj5(k:Nat)(l:List D)(i:Int):Option PR:=(zz k).face l i
def xo(k:Nat)(l:List D)(i v:Int):Option PR:=(zz k).term l i v
def zib(k:Nat)(l:List D)(i v:Int)(t:Tr):Option PR:=(zz k).after l i v t
def zge(k:Nat)(l:List D)(i v:Int):Option PR:=(zz k).atom l i v
def ztl(k:Nat)(l:List D)(i v:Int):Option PR:=(zz k).box l i v
def zpz(k:Nat)(l:List D)(i v:Int):Option PR:=(zz k).join l i v
def zj4(k:Nat)(l:List D)(i v:Int):Option PR:=(zz k).meet l i v
def zi5(k:Nat)(l:List D)(i v:Int):Option PR:=(zz k).dim l i v
def zj6(k:Nat)(l:List D)(i:Int):Option PR:=zmp (zz k) l i
def vc(o:Option PR)(K:Out→Int→Option R1):Option R1:=zc o λ p=>bif yp p then K (.ret (.d (trD (zb p)))) (zn p) else K (.pan (zch (yt p) (xj p))) (zn p)
theorem zb1(o:Option PR)(l:List D)(K:Out→St→Option R1):vc o (λ o j=>K o (xw l j))=zcw (vc o λ o j=>some (o,xw l j)) K:=by
 unfold vc; simp only [yo,xz,w7]
def z1c:List V→Option (Int×Tr) | [.d (.int .i64 s),.d (.agg [.int .i64 k,.str n,.sl 5 kids,.sl 1 nms,.int .i64 a])]=>some (s,⟨k,n,kids,nms,a⟩) | _=>none
theorem zvi{a:List V}{x:Int×Tr}(h:z1c a=some x):a=[.d (.int .i64 x.1),.d (trD x.2)]:=by
 unfold z1c at h; split at h <;> cases h; rfl
def F49(n:Nat):RF:=⟨Unit,zg2,λ l i _ K=>zc (zh6 n l i) λ p=>bif zi4 p then K (.ret (.d (.sl 1 (zoq p)))) (w5 p) else K (.pan (zch (zgd p) (zi6 p))) (w5 p),by intros; simp only [yo,xz,w7]⟩
def F25(n:Nat):RF:=⟨Int,zjy,λ l i v K=>vc (xo n l i v) K,λ l i v K=>zb1 _ l K⟩
def afG(n:Nat)(l:List D)(i:Int)(K:Out→Int→Option R1):Int×Tr→Option R1 | (v,t)=>vc (zib n l i v t) K
def F54(n:Nat):RF:=⟨Int×Tr,z1c,λ l i v K=>afG n l i K v,λ l i v K=>zb1 _ l K⟩
def F56(n:Nat):RF:=⟨Int,zjy,λ l i v K=>vc (zge n l i v) K,λ l i v K=>zb1 _ l K⟩
def F81(n:Nat):RF:=⟨Int,zjy,λ l i v K=>vc (ztl n l i v) K,λ l i v K=>zb1 _ l K⟩
def z4m(n:Nat):RF:=⟨Unit,zg2,λ l i _ K=>vc (zj5 n l i) K,λ l i v K=>zb1 _ l K⟩
def z4n(n:Nat):RF:=⟨Int,zjy,λ l i v K=>vc (zpz n l i v) K,λ l i v K=>zb1 _ l K⟩
def z4l(n:Nat):RF:=⟨Int,zjy,λ l i v K=>vc (zj4 n l i v) K,λ l i v K=>zb1 _ l K⟩
def F80(n:Nat):RF:=⟨Int,zjy,λ l i v K=>vc (zi5 n l i v) K,λ l i v K=>zb1 _ l K⟩
def F28(n:Nat):RF:=⟨Unit,zg2,λ l i _ K=>vc (zj6 n l i) K,λ l i v K=>zb1 _ l K⟩
def zua:List V→St→Option (Int×Int×List D×Option Nat)
 | [.d (.int .i64 k),.d (.int .i64 a),.d (.sl 5 l)],[]=>some (k,a,l,none)
 | [.d (.int .i64 k),.d (.int .i64 a),.sl 5 l 0],[(0,.tok m)]=>some (k,a,l,some m)
 | _,_=>none
def z26(K:Out→St→Option R1):Int×Int×List D×Option Nat→Option R1
 | (k,a,l,some m)=>K (.ret (.agg [.d (.int .i64 k),.d (.str []),.sl 5 l 0,.d (.sl 1 []),.d (.int .i64 a)])) [(0,.tok m)]
 | (k,a,l,none)=>K (.ret (.d (.agg [.int .i64 k,.str [],.sl 5 l,.sl 1 [],.int .i64 a]))) []
def z0g(S:CK R1):CK R1 where
 S:=λ g args σ=>bif Nat.beq g 75 then zc (zua args σ) λ q=>z26 (λ o s=>some (o,s)) q else S.S g args σ
 run:=λ g args σ K=>bif Nat.beq g 75 then zc (zua args σ) λ q=>z26 K q else S.run g args σ K
 ok:=λ g a σ K=>by
  show _=zcw _ K;rw [xz,yo];cases Nat.beq g 75
  ·exact S.ok g a σ K
  ·simp only [p5];congr 1;funext q;obtain ⟨k,p,l,b⟩:=q;cases b <;> rfl
def T4(n:Nat):CK R1:=rdr 41 (F25 n) (rdr 74 (F54 n) (rdr 76 (F56 n) (rdr 105 (F81 n) (rdr 145 (z4m n) (rdr 144 (z4n n) (rdr 175 (z4l n) (rdr 104 (F80 n) (rdr 69 (F49 n) (z0g T3)))))))))
def yk(s:List UInt8):List D:=(wc s).1
def qb(s:List UInt8):Int:=(wc s).2.1
def xg(s:List UInt8):Int:=(wc s).2.2
def zub:List V→St→Option (List UInt8)
 | [.d (.str s)],[(0,.tok 0)]=>some s
 | _,_=>none
def zsv(K:Out→St→Option R1)(s:List UInt8):Option R1:=
 bif decide (xg s=0) then K (.ret (.tup [.sl 3 (yk s) 0,.d (.int .i64 (qb s)),.d (.int .i64 0)])) [(0,.tok (yk s).length)]
 else K (.ret (.tup [.d (.sl 3 []),.d (.int .i64 (qb s)),.d (.int .i64 (xg s))])) [(0,.tok 0)]
theorem zt6(K:Out→St→Option R1)(s:List UInt8):zsv K s=zcw (zsv (λ o s=>some (o,s)) s) K:=by
 unfold zsv;rw [xz];rfl
def more{α:Type}(f:Nat)(dec:List V→St→Option α)(go:(Out→St→Option R1)→α→Option R1)(ok:∀ K q,go K q=zcw (go (λ o s=>some (o,s)) q) K)(S:CK R1):CK R1 where
 S:=λ g args σ=>bif Nat.beq g f then zc (dec args σ) λ q=>go (λ o s=>some (o,s)) q else S.S g args σ
 run:=λ g args σ K=>bif Nat.beq g f then zc (dec args σ) λ q=>go K q else S.run g args σ K
 ok:=λ g a σ K=>by
  show _=zcw _ K;rw [xz,yo];cases Nat.beq g f
  ·exact S.ok g a σ K
  ·simp only [p5];congr 1;funext q;exact ok K q
theorem zcp{α:Type}{f:Nat}{dec:List V→St→Option α}{go:(Out→St→Option R1)→α→Option R1}{ok:∀ K q,go K q=zcw (go (λ o s=>some (o,s)) q) K}{S:CK R1}(hS:knows cx S.S (zl cx))
  (hf:∀ a σ q r,dec a σ=some q→go (λ o s=>some (o,s)) q=some r→zl cx f a σ=some r):knows cx (more f dec go ok S).S (zl cx):=by
 intro g args σ r hd h;simp only [more] at h;cases hg:Nat.beq g f <;> rw [hg] at h
 ·exact hS g args σ r hd h
 ·obtain rfl:=po hg;simp only [p5] at h;obtain ⟨q,hq,h⟩:=za h;exact hf args σ q r hq h
theorem zrp{s:List UInt8}{e:Nat}{l:List D}(h:Cov s e l):∃ I,l=I++[y4 0 [] (s.length:Int)]:=by
 induction h with
 | fin _ _=>exact ⟨[],rfl⟩
 | tok _ _ _ _ _ _ ih=>obtain ⟨I,rfl⟩:=ih; exact ⟨_::I,rfl⟩
theorem scan_ok{s:List UInt8}(h:decide (xg s=0)=true):∃ I,yk s=I++[y4 0 [] (s.length:Int)]:=by
 simp only [decide_eq_true_eq] at h;rcases zdj s with ⟨_,_,l,hl,hc⟩ | ⟨h1,_⟩
 ·obtain ⟨I,rfl⟩:=zrp hc;exact ⟨I,by unfold yk; rw [hl]⟩
 ·exact absurd h h1
theorem zw0(a:List V)(σ:St)(s:List UInt8)(r:R1)(hd:zub a σ=some s)(h:zsv (λ o s=>some (o,s)) s=some r):zl cx 63 a σ=some r:=by
 unfold zub at hd;split at hd
 ·cases hd;rw [z3t];unfold zsv at h;cases hs:decide (xg s=0) <;> rw [hs] at h
  ·rw [p6] at h;simp only [decide_eq_false_iff_not] at hs;rcases zdj s with ⟨_,_,l,hl,_⟩ | ⟨_,h2,_⟩
   ·exact absurd (by unfold xg; rw [hl]) hs
   ·rw [←h]; unfold zd3; rw [h2]; rfl
  ·obtain ⟨I,hI⟩:=scan_ok hs;have hz:(wc s).2.2=0:=pd hs;rw [p5] at h;rw [←h];unfold zd3;rw [hz];unfold yk qb;have e:z09 (wc s).1=.sl 3 (wc s).1 0:=by
    have:(wc s).1=I++[y4 0 [] (s.length:Int)]:=hI;rw [this]; exact zq7 _ _
   rw [e]
 ·cases hd
inductive T where
 | mk (k:Int) (nm:List UInt8) (kids:List T) (nms:List (List UInt8)) (pl:Int)
instance:Inhabited T:=⟨.mk 0 [] [] [] 0⟩
def strs:List D→Option (List (List UInt8))
 | []=>some []
 | .str s::r=>(match strs r with | some l=>some (s::l) | none=>none)
 | _::_=>none
theorem znc:∀ {l:List D} {m},strs l=some m→l=m.map .str
 | [],m,h=>by cases h; rfl
 | x::r,m,h=>by
  unfold strs at h;split at h
  ·rename_i he; cases he
  ·rename_i s q he;cases he;split at h
   ·rename_i l hl; cases h; rw [znc hl]; rfl
   ·cases h
  ·cases h
def zmy{α:Type}(l:List α):Bool:=decide (l.length<4294967296)
theorem zuw{R:Type}{l:List (List UInt8)}{i:Nat}{K:D→Option R}:vd (l.map D.str) i K=zc l[i]? λ t=>K (.str t):=by
 unfold vd;rw [List.getElem?_map];cases l[i]? <;> rfl
def xu{α β:Type}(f:Nat)(dec:List V→Option α)(sp:α→Option β)(mk:β→V)(S:CK R1):CK R1 where
 S:=λ g args σ=>bif Nat.beq g f&&σ.isEmpty then zc (dec args) λ q=>zc (sp q) λ b=>some (.ret (mk b),[]) else S.S g args σ
 run:=λ g args σ K=>bif Nat.beq g f&&σ.isEmpty then zc (dec args) λ q=>zc (sp q) λ b=>K (.ret (mk b)) [] else S.run g args σ K
 ok:=λ g a σ K=>by
  show _=zcw _ K;rw [xz,yo];cases Nat.beq g f&&σ.isEmpty
  ·exact S.ok g a σ K
  ·simp only [p5,yo];rfl
theorem yu{α β:Type}{f:Nat}{dec:List V→Option α}{sp:α→Option β}{mk:β→V}{S:CK R1}(hS:knows cx S.S (zl cx))
  (hf:∀ a q b,cx.dom f a=true→dec a=some q→sp q=some b→zl cx f a []=some (.ret (mk b),[])):knows cx (xu f dec sp mk S).S (zl cx):=by
 intro g args σ r hd h;simp only [xu] at h;cases hg:(Nat.beq g f&&σ.isEmpty) <;> rw [hg] at h
 ·exact hS g args σ r hd h
 ·rw [pq] at hg;obtain rfl:=po hg.1;obtain rfl:=List.isEmpty_iff.1 hg.2;simp only [p5] at h;obtain ⟨q,hq,h⟩:=za h;obtain ⟨b,hb,h⟩:=za h;cases h;exact hf args q b hd hq hb
def K13:CK R1:=more 63 zub zsv zt6 (CK.plain x7)
theorem zv3:knows cx K13.S (zl cx):=zcp yy zw0
def mkB(b:Bool):V:=.d (.bool b)
def mkI(i:Int):V:=.d (.int .i64 i)
theorem g36(n:Nat)(s:List UInt8) :
    zu cx K13 n 126 [.d (.str s)] [] =
  zh (decide (s.length≤big))
    (bif decide (xg s=0) then
      bif decide ((↑(yk s).length:Int)=(2:Int)) then
        zh (decide ((0:Int)<(↑(yk s).length:Int)))
          (vd (yk s) (0:Int).toNat λ y=>
            vd y.cells 0 λ c=>
              match c with
              | D.int k' n=>
                bif decide (k'=IntKind.i64) then
                  bif decide (n=(1:Int)) then
                    zh (decide ((0:Int)<(↑(yk s).length:Int)))
                      (vd (yk s) (0:Int).toNat λ y=>
                        vd y.cells 1 λ c=>
                          match c with
                          | D.str s_1=>some (Out.ret (V.d (D.bool (decide (s_1=s)))),[])
                          | x=>none)
                  else some (Out.ret (V.d (D.bool false)),[])
                else none
              | x=>none)
      else some (Out.ret (V.d (D.bool false)),[])
    else
      bif decide (xg s=(0:Int)) then some (Out.ret (V.d (D.bool false)),[])
      else some (Out.ret (V.d (D.bool false)),[])):=by kernel_rfl
def zvy(s:List UInt8):D→Bool | .agg [.int .i64 k,.str t,.int .i64 _]=>decide (k=1)&&decide (t=s) | _=>false
def qz(s:List UInt8):Bool:=decide (xg s=0)&&(match yk s with | [x,_]=>zvy s x | _=>false)
theorem zyf{s:List UInt8}(h:xg s=0)(h2:(yk s).length=2):∃ k t a y,yk s=[y4 k t a,y]:=by
 rcases zdj s with ⟨_,_,l,hl,hc⟩ | ⟨h1,_⟩
 ·have e:yk s=l:=by unfold yk; rw [hl]
  rw [e] at h2 ⊢;cases hc with
  | fin _ _=>simp at h2
  | tok _ _ _ _ _ h=>
   cases h with
   | fin _ _=>exact ⟨_,_,_,_,rfl⟩
   | tok _ _ _ _ _ h=>have:=h.ne; simp only [p7] at h2; omega
 ·exact absurd h h1
theorem zwv{s:List UInt8}(h2:(yk s).length ≠ 2):qz s=false:=by
 unfold qz;split
 ·rename_i x y h; rw [h] at h2; simp at h2
 ·simp
theorem z2e(s:List UInt8)(hs:s.length≤big):zl cx 126 [.d (.str s)] []=some (.ret (.d (.bool (qz s))),[]):=by
 refine zw zv3 (N:=0) ?_;rw [g36,pa hs];by_cases h:xg s=0
 ·rw [pa h];by_cases h2:(yk s).length=2
  ·obtain ⟨k,t,a,y,hl⟩:=zyf h h2;have e:qz s=(decide (k=1)&&decide (t=s)):=by unfold qz; rw [h,hl]; rfl
   rw [e,hl];show (bif decide (k=1) then _ else _)=_;cases decide (k=1) <;> rfl
  ·rw [zwv h2,pb (p:=((yk s).length:Int)=2) (by omega)]
   rfl
 ·have e:qz s=false:=by unfold qz; rw [pb h]; rfl
  rw [pb h,e];rfl
def xd{α:Type}(p:α→Bool):List α→Nat→Option Nat
 | [],_=>none
 | x::r,j=>bif p x then some j else xd p r (j+1)
def zet{α:Type}(p:α→Bool)(l:List α):Int:=match xd p l 0 with | some j=>(j:Int) | none=>-1
theorem z0p{j n:Nat}(h:j<n):decide ((j:Int)<(n:Int))=true:=pa (by omega)
theorem z1a{n:Nat}:decide ((n:Int)<(n:Int))=false:=pb (by omega)
theorem z0h{j:Nat}:decide ((0:Int)≤(j:Int))=true:=pa (by omega)
theorem zzo{α:Type}{l r:List α}{x:α}{j:Nat}(h:l.drop j=x::r):j<l.length∧l[j]?=some x∧l.drop (j+1)=r:=by
 have h1:j<l.length:=by
  by_cases h':j<l.length
  ·exact h'
  ·rw [List.drop_eq_nil_of_le (by omega)] at h; cases h
 rw [List.drop_eq_getElem_cons h1] at h;injection h with h2 h3;exact ⟨h1,by rw [p9 h1,h2],h3⟩
theorem zv8{j n:Nat}(h:j<n)(hn:n<4294967296):IntKind.i64.wrap ((j:Int)+1)=((j+1:Nat):Int):=by
 rw [IntWalk.i64_in _ (by omega)]; rfl
theorem zn9{R α:Type}(L:Nat→Int→Option R)(xs:List α)(p:α→Bool)(B:Nat→Option R)(E:Option R)(hs:xs.length<4294967296)
  (H:∀ (k j:Nat) x,j<xs.length→xs[j]?=some x→L (k+1) j=bif p x then B j else L k (IntKind.i64.wrap ((j:Int)+1))) (HE:∀ k,L (k+1) xs.length=E) :
  ∀ (r:List α) (j k:Nat),xs.drop j=r→j≤xs.length→r.length<k→L k j=match xd p r j with | some i=>B i | none=>E
 | [],j,k,hd,hj,hk=>by
  obtain ⟨k,rfl⟩:∃ i,k=i+1:=⟨k - 1,by omega⟩
  have:xs.length≤j:=by simpa using hd
  obtain rfl:j=xs.length:=by omega
  exact HE k
 | x::r,j,k,hd,hj,hk=>by
  obtain ⟨k,rfl⟩:∃ i,k=i+1:=⟨k - 1,by omega⟩
  obtain ⟨h1,h2,h3⟩:=zzo hd;rw [H k j x h1 h2,xd];cases p x
  ·rw [p6,p6,zv8 h1 hs];exact zn9 L xs p B E hs H HE r (j+1) k h3 h1 (by simp at hk; omega)
  ·rfl
theorem zsx{R α:Type}(L:Nat→Int→Option R)(xs:List α)(p:α→Bool)(B:Nat→Option R)(E:Option R)(hs:xs.length<4294967296)
  (H:∀ (k j:Nat) x,j<xs.length→xs[j]?=some x→L (k+1) j=bif p x then B j else L k (IntKind.i64.wrap ((j:Int)+1))) (HE:∀ k,L (k+1) xs.length=E) {k:Nat} (hk:xs.length<k) :
  L k 0=match xd p xs 0 with | some i=>B i | none=>E:=zn9 L xs p B E hs H HE xs 0 k rfl (Nat.zero_le _) hk
theorem zye{α:Type}{l:List α}(h:zmy l=true):l.length<4294967296:=pd h
theorem g49(n k:Nat)(l:List D)(i:Int):zu cx (T4 k) n 69 [.ptr 0 0] [(0,.val 2 (.d (.agg [.sl 3 l,.int .i64 i])))]=zc (zg l i) λ p=>bif decide (p.fst=1) then LP cx (T4 k) n 69 1 2 n [(0,V.ptr 0 0),(3,V.sl 1 [D.str p.snd.1] 7)] [(0,Ob.val 2 (V.d (D.agg [D.sl 3 l,D.int .i64 (up i)]))),(7,Ob.tok 1)] (AK cx (T4 k) n 69 1 2 (EK cx 69 1)) else some (Out.pan (V.d (D.iface 115 (D.agg [D.int .i64 p.snd.snd,D.int .i64 (61:Int)]))),[(0,Ob.val 2 (V.d (D.agg [D.sl 3 l,D.int .i64 i])))]):=by kernel_rfl
theorem g25(n k:Nat)(l:List D)(i v:Int):zu cx (T4 k) n 41 [.ptr 0 0,.d (.int .i64 v)] [(0,.val 2 (.d (.agg [.sl 3 l,.int .i64 i])))]=bif decide (200<v) then zc (zg l i) λ p=>some (Out.pan (V.d (D.iface 115 (D.agg [D.int .i64 p.snd.snd,D.int .i64 (62:Int)]))),[(0,Ob.val 2 (V.d (D.agg [D.sl 3 l,D.int .i64 i])))]) else zc (zg l i) λ p=>zc (zg l i) λ p_1=>bif zq p_1 [92] then zc (zh6 k l (IntKind.i64.wrap (i+(1:Int)))) λ p_2=>bif zi4 p_2 then zc (zg l (w5 p_2)) λ p_3=>bif zq p_3 [46] then zc (xo k l (up (w5 p_2)) (IntKind.i64.wrap (v+(1:Int)))) λ p_4=>bif yp p_4 then some (Out.ret (V.d (D.agg [D.int .i64 (2:Int),D.str [],D.sl 5 [D.agg [D.int .i64 (zb p_4).k,D.str (zb p_4).2,D.sl 5 (zb p_4).3,D.sl 1 (zb p_4).4,D.int .i64 (zb p_4).pl]],D.sl 1 (zoq p_2),D.int .i64 p.snd.snd])),[(0,Ob.val 2 (V.d (D.agg [D.sl 3 l,D.int .i64 (zn p_4)])))]) else some (Out.pan (V.d (D.iface 115 (D.agg [D.int .i64 (yt p_4),D.int .i64 (xj p_4)]))),[(0,Ob.val 2 (V.d (D.agg [D.sl 3 l,D.int .i64 (zn p_4)])))]) else some (Out.pan (V.d (D.iface 115 (D.agg [D.int .i64 p_3.snd.snd,D.int .i64 (61:Int)]))),[(0,Ob.val 2 (V.d (D.agg [D.sl 3 l,D.int .i64 (w5 p_2)])))]) else some (Out.pan (V.d (D.iface 115 (D.agg [D.int .i64 (zgd p_2),D.int .i64 (zi6 p_2)]))),[(0,Ob.val 2 (V.d (D.agg [D.sl 3 l,D.int .i64 (w5 p_2)])))]) else zc (zg l i) λ p_2=>bif zq p_2 [60] then zc (zh6 k l (IntKind.i64.wrap (i+(1:Int)))) λ p_3=>bif zi4 p_3 then zc (zg l (w5 p_3)) λ p_4=>bif zq p_4 [62] then zc (xo k l (up (w5 p_3)) (IntKind.i64.wrap (v+(1:Int)))) λ p_5=>bif yp p_5 then some (Out.ret (V.d (D.agg [D.int .i64 (3:Int),D.str [],D.sl 5 [D.agg [D.int .i64 (zb p_5).k,D.str (zb p_5).2,D.sl 5 (zb p_5).3,D.sl 1 (zb p_5).4,D.int .i64 (zb p_5).pl]],D.sl 1 (zoq p_3),D.int .i64 p.snd.snd])),[(0,Ob.val 2 (V.d (D.agg [D.sl 3 l,D.int .i64 (zn p_5)])))]) else some (Out.pan (V.d (D.iface 115 (D.agg [D.int .i64 (yt p_5),D.int .i64 (xj p_5)]))),[(0,Ob.val 2 (V.d (D.agg [D.sl 3 l,D.int .i64 (zn p_5)])))]) else some (Out.pan (V.d (D.iface 115 (D.agg [D.int .i64 p_4.snd.snd,D.int .i64 (61:Int)]))),[(0,Ob.val 2 (V.d (D.agg [D.sl 3 l,D.int .i64 (w5 p_3)])))]) else some (Out.pan (V.d (D.iface 115 (D.agg [D.int .i64 (zgd p_3),D.int .i64 (zi6 p_3)]))),[(0,Ob.val 2 (V.d (D.agg [D.sl 3 l,D.int .i64 (w5 p_3)])))]) else zc (zfy l i) λ b=>bif b then zc (zg l (IntKind.i64.wrap (i+(1:Int)))) λ p_3=>zc (xo k l (IntKind.i64.wrap (up (IntKind.i64.wrap (i+(1:Int)))+(1:Int))) (IntKind.i64.wrap (v+(1:Int)))) λ p_4=>bif yp p_4 then zc (zg l (zn p_4)) λ p_5=>bif zq p_5 [41] then zc (zg l (up (zn p_4))) λ p_6=>bif !decide (za8 p_6=(0:Int)) then zc (xo k l (IntKind.i64.wrap (up (zn p_4)+(1:Int))) (IntKind.i64.wrap (v+(1:Int)))) λ p_7=>bif yp p_7 then some (Out.ret (V.d (D.agg [D.int .i64 (za8 p_6),D.str [],D.sl 5 [D.agg [D.int .i64 (zb p_4).k,D.str (zb p_4).2,D.sl 5 (zb p_4).3,D.sl 1 (zb p_4).4,D.int .i64 (zb p_4).pl],D.agg [D.int .i64 (zb p_7).k,D.str (zb p_7).2,D.sl 5 (zb p_7).3,D.sl 1 (zb p_7).4,D.int .i64 (zb p_7).pl]],D.sl 1 [D.str p_3.snd.1],D.int .i64 p.snd.snd])),[(0,Ob.val 2 (V.d (D.agg [D.sl 3 l,D.int .i64 (zn p_7)])))]) else some (Out.pan (V.d (D.iface 115 (D.agg [D.int .i64 (yt p_7),D.int .i64 (xj p_7)]))),[(0,Ob.val 2 (V.d (D.agg [D.sl 3 l,D.int .i64 (zn p_7)])))]) else zc (zib k l (up (zn p_4)) v { k:=(9:Int),nm:=[],kids:=[D.agg [D.int .i64 (1:Int),D.str p_3.snd.1,D.sl 5 [],D.sl 1 [],D.int .i64 p_3.snd.snd],D.agg [D.int .i64 (zb p_4).k,D.str (zb p_4).2,D.sl 5 (zb p_4).3,D.sl 1 (zb p_4).4,D.int .i64 (zb p_4).pl]],nms:=[],pl:=p.snd.snd }) λ p=>bif yp p then some (Out.ret (V.d (D.agg [D.int .i64 (zb p).k,D.str (zb p).2,D.sl 5 (zb p).3,D.sl 1 (zb p).4,D.int .i64 (zb p).pl])),[(0,Ob.val 2 (V.d (D.agg [D.sl 3 l,D.int .i64 (zn p)])))]) else some (Out.pan (V.d (D.iface 115 (D.agg [D.int .i64 (yt p),D.int .i64 (xj p)]))),[(0,Ob.val 2 (V.d (D.agg [D.sl 3 l,D.int .i64 (zn p)])))]) else some (Out.pan (V.d (D.iface 115 (D.agg [D.int .i64 p_5.snd.snd,D.int .i64 (61:Int)]))),[(0,Ob.val 2 (V.d (D.agg [D.sl 3 l,D.int .i64 (zn p_4)])))]) else some (Out.pan (V.d (D.iface 115 (D.agg [D.int .i64 (yt p_4),D.int .i64 (xj p_4)]))),[(0,Ob.val 2 (V.d (D.agg [D.sl 3 l,D.int .i64 (zn p_4)])))]) else zc (zge k l i v) λ p=>bif yp p then zc (zib k l (zn p) v { k:=(zb p).k,nm:=(zb p).2,kids:=(zb p).3,nms:=(zb p).4,pl:=(zb p).pl }) λ p=>bif yp p then some (Out.ret (V.d (D.agg [D.int .i64 (zb p).k,D.str (zb p).2,D.sl 5 (zb p).3,D.sl 1 (zb p).4,D.int .i64 (zb p).pl])),[(0,Ob.val 2 (V.d (D.agg [D.sl 3 l,D.int .i64 (zn p)])))]) else some (Out.pan (V.d (D.iface 115 (D.agg [D.int .i64 (yt p),D.int .i64 (xj p)]))),[(0,Ob.val 2 (V.d (D.agg [D.sl 3 l,D.int .i64 (zn p)])))]) else some (Out.pan (V.d (D.iface 115 (D.agg [D.int .i64 (yt p),D.int .i64 (xj p)]))),[(0,Ob.val 2 (V.d (D.agg [D.sl 3 l,D.int .i64 (zn p)])))]):=by kernel_rfl
theorem g56(n k:Nat)(l:List D)(i v:Int):zu cx (T4 k) n 76 [.ptr 0 0,.d (.int .i64 v)] [(0,.val 2 (.d (.agg [.sl 3 l,.int .i64 i])))]=zc (zg l i) λ p=>zc (zg l i) λ p_1=>bif decide (p_1.fst=(1:Int)) then zc (zg l i) λ p_2=>bif decide (p_2.fst=1) then some (Out.ret (V.d (D.agg [D.int .i64 (1:Int),D.str p_2.snd.1,D.sl 5 [],D.sl 1 [],D.int .i64 p.snd.snd])),[(0,Ob.val 2 (V.d (D.agg [D.sl 3 l,D.int .i64 (up i)])))]) else some (Out.pan (V.d (D.iface 115 (D.agg [D.int .i64 p_2.snd.snd,D.int .i64 (61:Int)]))),[(0,Ob.val 2 (V.d (D.agg [D.sl 3 l,D.int .i64 i])))]) else zc (zg l i) λ p_2=>bif zq p_2 [91] then zc (ztl k l i v) λ p=>bif yp p then some (Out.ret (V.d (D.agg [D.int .i64 (zb p).k,D.str (zb p).2,D.sl 5 (zb p).3,D.sl 1 (zb p).4,D.int .i64 (zb p).pl])),[(0,Ob.val 2 (V.d (D.agg [D.sl 3 l,D.int .i64 (zn p)])))]) else some (Out.pan (V.d (D.iface 115 (D.agg [D.int .i64 (yt p),D.int .i64 (xj p)]))),[(0,Ob.val 2 (V.d (D.agg [D.sl 3 l,D.int .i64 (zn p)])))]) else zc (zg l i) λ p_3=>bif zq p_3 [40] then zc (xo k l (up i) (IntKind.i64.wrap (v+(1:Int)))) λ p_4=>bif yp p_4 then zc (zg l (zn p_4)) λ p_5=>bif zq p_5 [44] then zc (xo k l (IntKind.i64.wrap (zn p_4+(1:Int))) (IntKind.i64.wrap (v+(1:Int)))) λ p_6=>bif yp p_6 then zc (zg l (zn p_6)) λ p_7=>bif zq p_7 [41] then some (Out.ret (V.d (D.agg [D.int .i64 (8:Int),D.str [],D.sl 5 [D.agg [D.int .i64 (zb p_4).k,D.str (zb p_4).2,D.sl 5 (zb p_4).3,D.sl 1 (zb p_4).4,D.int .i64 (zb p_4).pl],D.agg [D.int .i64 (zb p_6).k,D.str (zb p_6).2,D.sl 5 (zb p_6).3,D.sl 1 (zb p_6).4,D.int .i64 (zb p_6).pl]],D.sl 1 [],D.int .i64 p.snd.snd])),[(0,Ob.val 2 (V.d (D.agg [D.sl 3 l,D.int .i64 (up (zn p_6))])))]) else some (Out.pan (V.d (D.iface 115 (D.agg [D.int .i64 p_7.snd.snd,D.int .i64 (61:Int)]))),[(0,Ob.val 2 (V.d (D.agg [D.sl 3 l,D.int .i64 (zn p_6)])))]) else some (Out.pan (V.d (D.iface 115 (D.agg [D.int .i64 (yt p_6),D.int .i64 (xj p_6)]))),[(0,Ob.val 2 (V.d (D.agg [D.sl 3 l,D.int .i64 (zn p_6)])))]) else zc (zg l (zn p_4)) λ p_6=>bif zq p_6 [58] then zc (xo k l (IntKind.i64.wrap (zn p_4+(1:Int))) (IntKind.i64.wrap (v+(1:Int)))) λ p_7=>bif yp p_7 then zc (zg l (zn p_7)) λ p_8=>bif zq p_8 [41] then some (Out.ret (V.d (D.agg [D.int .i64 (9:Int),D.str [],D.sl 5 [D.agg [D.int .i64 (zb p_4).k,D.str (zb p_4).2,D.sl 5 (zb p_4).3,D.sl 1 (zb p_4).4,D.int .i64 (zb p_4).pl],D.agg [D.int .i64 (zb p_7).k,D.str (zb p_7).2,D.sl 5 (zb p_7).3,D.sl 1 (zb p_7).4,D.int .i64 (zb p_7).pl]],D.sl 1 [],D.int .i64 p.snd.snd])),[(0,Ob.val 2 (V.d (D.agg [D.sl 3 l,D.int .i64 (up (zn p_7))])))]) else some (Out.pan (V.d (D.iface 115 (D.agg [D.int .i64 p_8.snd.snd,D.int .i64 (61:Int)]))),[(0,Ob.val 2 (V.d (D.agg [D.sl 3 l,D.int .i64 (zn p_7)])))]) else some (Out.pan (V.d (D.iface 115 (D.agg [D.int .i64 (yt p_7),D.int .i64 (xj p_7)]))),[(0,Ob.val 2 (V.d (D.agg [D.sl 3 l,D.int .i64 (zn p_7)])))]) else zc (zg l (zn p_4)) λ p=>bif zq p [41] then some (Out.ret (V.d (D.agg [D.int .i64 (zb p_4).k,D.str (zb p_4).2,D.sl 5 (zb p_4).3,D.sl 1 (zb p_4).4,D.int .i64 (zb p_4).pl])),[(0,Ob.val 2 (V.d (D.agg [D.sl 3 l,D.int .i64 (up (zn p_4))])))]) else some (Out.pan (V.d (D.iface 115 (D.agg [D.int .i64 p.snd.snd,D.int .i64 (61:Int)]))),[(0,Ob.val 2 (V.d (D.agg [D.sl 3 l,D.int .i64 (zn p_4)])))]) else some (Out.pan (V.d (D.iface 115 (D.agg [D.int .i64 (yt p_4),D.int .i64 (xj p_4)]))),[(0,Ob.val 2 (V.d (D.agg [D.sl 3 l,D.int .i64 (zn p_4)])))]) else some (Out.pan (V.d (D.iface 115 (D.agg [D.int .i64 p_3.snd.snd,D.int .i64 (61:Int)]))),[(0,Ob.val 2 (V.d (D.agg [D.sl 3 l,D.int .i64 i])))]):=by kernel_rfl
theorem g80(n k:Nat)(l:List D)(i v:Int):zu cx (T4 k) n 104 [.ptr 0 0,.d (.int .i64 v)] [(0,.val 2 (.d (.agg [.sl 3 l,.int .i64 i])))]=bif decide (200<v) then zc (zg l i) λ p=>some (Out.pan (V.d (D.iface 115 (D.agg [D.int .i64 p.snd.snd,D.int .i64 (62:Int)]))),[(0,Ob.val 2 (V.d (D.agg [D.sl 3 l,D.int .i64 i])))]) else zc (zg l i) λ p=>zc (zg l i) λ p_1=>bif decide (p_1.fst=(1:Int)) then zc (zg l i) λ p_2=>bif decide (p_2.fst=1) then some (Out.ret (V.d (D.agg [D.int .i64 (1:Int),D.str p_2.snd.1,D.sl 5 [],D.sl 1 [],D.int .i64 p.snd.snd])),[(0,Ob.val 2 (V.d (D.agg [D.sl 3 l,D.int .i64 (up i)])))]) else some (Out.pan (V.d (D.iface 115 (D.agg [D.int .i64 p_2.snd.snd,D.int .i64 (61:Int)]))),[(0,Ob.val 2 (V.d (D.agg [D.sl 3 l,D.int .i64 i])))]) else zc (zg l i) λ p_2=>bif zq p_2 [48] then zc (zg l i) λ p_3=>some (Out.ret (V.d (D.agg [D.int .i64 (17:Int),D.str p_3.snd.1,D.sl 5 [],D.sl 1 [],D.int .i64 p.snd.snd])),[(0,Ob.val 2 (V.d (D.agg [D.sl 3 l,D.int .i64 (up i)])))]) else zc (zg l i) λ p_3=>bif zq p_3 [49] then zc (zg l i) λ p_4=>some (Out.ret (V.d (D.agg [D.int .i64 (17:Int),D.str p_4.snd.1,D.sl 5 [],D.sl 1 [],D.int .i64 p.snd.snd])),[(0,Ob.val 2 (V.d (D.agg [D.sl 3 l,D.int .i64 (up i)])))]) else zc (zg l i) λ p_4=>bif zq p_4 [126] then zc (zi5 k l (IntKind.i64.wrap (i+(1:Int))) (IntKind.i64.wrap (v+(1:Int)))) λ p_5=>bif yp p_5 then some (Out.ret (V.d (D.agg [D.int .i64 (16:Int),D.str [],D.sl 5 [D.agg [D.int .i64 (zb p_5).k,D.str (zb p_5).2,D.sl 5 (zb p_5).3,D.sl 1 (zb p_5).4,D.int .i64 (zb p_5).pl]],D.sl 1 [],D.int .i64 p.snd.snd])),[(0,Ob.val 2 (V.d (D.agg [D.sl 3 l,D.int .i64 (zn p_5)])))]) else some (Out.pan (V.d (D.iface 115 (D.agg [D.int .i64 (yt p_5),D.int .i64 (xj p_5)]))),[(0,Ob.val 2 (V.d (D.agg [D.sl 3 l,D.int .i64 (zn p_5)])))]) else zc (zg l i) λ p=>bif zq p [40] then zc (zpz k l (up i) (IntKind.i64.wrap (v+(1:Int)))) λ p=>bif yp p then zc (zg l (zn p)) λ p_5=>bif zq p_5 [41] then some (Out.ret (V.d (D.agg [D.int .i64 (zb p).k,D.str (zb p).2,D.sl 5 (zb p).3,D.sl 1 (zb p).4,D.int .i64 (zb p).pl])),[(0,Ob.val 2 (V.d (D.agg [D.sl 3 l,D.int .i64 (up (zn p))])))]) else some (Out.pan (V.d (D.iface 115 (D.agg [D.int .i64 p_5.snd.snd,D.int .i64 (61:Int)]))),[(0,Ob.val 2 (V.d (D.agg [D.sl 3 l,D.int .i64 (zn p)])))]) else some (Out.pan (V.d (D.iface 115 (D.agg [D.int .i64 (yt p),D.int .i64 (xj p)]))),[(0,Ob.val 2 (V.d (D.agg [D.sl 3 l,D.int .i64 (zn p)])))]) else some (Out.pan (V.d (D.iface 115 (D.agg [D.int .i64 p.snd.snd,D.int .i64 (61:Int)]))),[(0,Ob.val 2 (V.d (D.agg [D.sl 3 l,D.int .i64 i])))]):=by kernel_rfl
theorem z36(n k:Nat)(l:List D)(i v:Int):zu cx (T4 k) n 144 [.ptr 0 0,.d (.int .i64 v)] [(0,.val 2 (.d (.agg [.sl 3 l,.int .i64 i])))]=zc (zj4 k l i v) λ p=>bif yp p then LP cx (T4 k) n 144 1 2 n [(0,V.ptr 0 0),(1,V.d (D.int .i64 v)),(4,V.ptr 5 0),(5,V.ptr 6 0)] [(0,Ob.val 2 (V.d (D.agg [D.sl 3 l,D.int .i64 (zn p)]))),(5,Ob.val 5 (V.d (D.agg [D.int .i64 (0:Int),D.str [],D.sl 5 [],D.sl 1 [],D.int .i64 (0:Int)]))),(6,Ob.val 5 (V.d (D.agg [D.int .i64 (zb p).k,D.str (zb p).2,D.sl 5 (zb p).3,D.sl 1 (zb p).4,D.int .i64 (zb p).pl])))] (AK cx (T4 k) n 144 1 2 (EK cx 144 1)) else some (Out.pan (V.d (D.iface 115 (D.agg [D.int .i64 (yt p),D.int .i64 (xj p)]))),[(0,Ob.val 2 (V.d (D.agg [D.sl 3 l,D.int .i64 (zn p)])))]):=by kernel_rfl
theorem z34(n k:Nat)(l:List D)(i v:Int):zu cx (T4 k) n 175 [.ptr 0 0,.d (.int .i64 v)] [(0,.val 2 (.d (.agg [.sl 3 l,.int .i64 i])))]=zc (zi5 k l i v) λ p=>bif yp p then LP cx (T4 k) n 175 1 2 n [(0,V.ptr 0 0),(1,V.d (D.int .i64 v)),(4,V.ptr 5 0),(5,V.ptr 6 0)] [(0,Ob.val 2 (V.d (D.agg [D.sl 3 l,D.int .i64 (zn p)]))),(5,Ob.val 5 (V.d (D.agg [D.int .i64 (0:Int),D.str [],D.sl 5 [],D.sl 1 [],D.int .i64 (0:Int)]))),(6,Ob.val 5 (V.d (D.agg [D.int .i64 (zb p).k,D.str (zb p).2,D.sl 5 (zb p).3,D.sl 1 (zb p).4,D.int .i64 (zb p).pl])))] (AK cx (T4 k) n 175 1 2 (EK cx 175 1)) else some (Out.pan (V.d (D.iface 115 (D.agg [D.int .i64 (yt p),D.int .i64 (xj p)]))),[(0,Ob.val 2 (V.d (D.agg [D.sl 3 l,D.int .i64 (zn p)])))]):=by kernel_rfl
theorem z35(n k:Nat)(l:List D)(i:Int):zu cx (T4 k) n 145 [.ptr 0 0] [(0,.val 2 (.d (.agg [.sl 3 l,.int .i64 i])))]=zc (zg l i) λ p=>zc (zg l i) λ p_1=>bif zq p_1 [49] then some (Out.ret (V.d (D.agg [D.int .i64 (12:Int),D.str [],D.sl 5 [],D.sl 1 [],D.int .i64 p.snd.snd])),[(0,Ob.val 2 (V.d (D.agg [D.sl 3 l,D.int .i64 (IntKind.i64.wrap (i+(1:Int)))])))]) else LP cx (T4 k) n 145 1 5 n [(0,V.ptr 0 0),(2,V.ptr 3 0),(3,V.ptr 4 0)] [(0,Ob.val 2 (V.d (D.agg [D.sl 3 l,D.int .i64 i]))),(3,Ob.val 5 (V.d (D.agg [D.int .i64 (0:Int),D.str [],D.sl 5 [],D.sl 1 [],D.int .i64 (0:Int)]))),(4,Ob.val 5 (V.agg [V.d (D.int .i64 (12:Int)),V.d (D.str []),V.sl 5 [] 10,V.d (D.sl 1 []),V.d (D.int .i64 p.snd.snd)])),(10,Ob.tok 0)] (AK cx (T4 k) n 145 1 5 (EK cx 145 1)):=by kernel_rfl
theorem g81(n k:Nat)(l:List D)(i v:Int):zu cx (T4 k) n 105 [.ptr 0 0,.d (.int .i64 v)] [(0,.val 2 (.d (.agg [.sl 3 l,.int .i64 i])))]=zc (zg l i) λ p=>LP cx (T4 k) n 105 1 2 n [(0,V.ptr 0 0),(1,V.d (D.int .i64 v)),(4,V.ptr 5 0),(5,V.ptr 6 0)] [(0,Ob.val 2 (V.d (D.agg [D.sl 3 l,D.int .i64 (up i)]))),(5,Ob.val 5 (V.d (D.agg [D.int .i64 (0:Int),D.str [],D.sl 5 [],D.sl 1 [],D.int .i64 (0:Int)]))),(6,Ob.val 5 (V.agg [V.d (D.int .i64 (10:Int)),V.d (D.str []),V.sl 5 [] 11,V.d (D.sl 1 []),V.d (D.int .i64 p.snd.snd)])),(11,Ob.tok 0)] (AK cx (T4 k) n 105 1 2 (EK cx 105 1)):=by kernel_rfl
theorem g28(n k:Nat)(l:List D)(i:Int):zu cx (T4 k) n 83 [.ptr 0 0] [(0,.val 2 (.d (.agg [.sl 3 l,.int .i64 i])))]=zc (zg l i) λ p=>zc (zg l i) λ p_1=>bif decide (p_1.fst=1) then zc (zg l (up i)) λ p_2=>bif zq p_2 [58] then zc (xo k l (up (up i)) (1:Int)) λ p_3=>bif yp p_3 then zc (zg l (zn p_3)) λ p_4=>bif zq p_4 [61] then zc (xo k l (up (zn p_3)) (1:Int)) λ p_5=>bif yp p_5 then zc (zg l (zn p_5)) λ p_6=>bif zq p_6 [59] then some (Out.ret (V.d (D.agg [D.int .i64 (18:Int),D.str p_1.snd.1,D.sl 5 [D.agg [D.int .i64 (zb p_3).k,D.str (zb p_3).2,D.sl 5 (zb p_3).3,D.sl 1 (zb p_3).4,D.int .i64 (zb p_3).pl],D.agg [D.int .i64 (zb p_5).k,D.str (zb p_5).2,D.sl 5 (zb p_5).3,D.sl 1 (zb p_5).4,D.int .i64 (zb p_5).pl]],D.sl 1 [],D.int .i64 p.snd.snd])),[(0,Ob.val 2 (V.d (D.agg [D.sl 3 l,D.int .i64 (up (zn p_5))])))]) else some (Out.pan (V.d (D.iface 115 (D.agg [D.int .i64 p_6.snd.snd,D.int .i64 (61:Int)]))),[(0,Ob.val 2 (V.d (D.agg [D.sl 3 l,D.int .i64 (zn p_5)])))]) else some (Out.pan (V.d (D.iface 115 (D.agg [D.int .i64 (yt p_5),D.int .i64 (xj p_5)]))),[(0,Ob.val 2 (V.d (D.agg [D.sl 3 l,D.int .i64 (zn p_5)])))]) else some (Out.pan (V.d (D.iface 115 (D.agg [D.int .i64 p_4.snd.snd,D.int .i64 (61:Int)]))),[(0,Ob.val 2 (V.d (D.agg [D.sl 3 l,D.int .i64 (zn p_3)])))]) else some (Out.pan (V.d (D.iface 115 (D.agg [D.int .i64 (yt p_3),D.int .i64 (xj p_3)]))),[(0,Ob.val 2 (V.d (D.agg [D.sl 3 l,D.int .i64 (zn p_3)])))]) else some (Out.pan (V.d (D.iface 115 (D.agg [D.int .i64 p_2.snd.snd,D.int .i64 (61:Int)]))),[(0,Ob.val 2 (V.d (D.agg [D.sl 3 l,D.int .i64 (up i)])))]) else some (Out.pan (V.d (D.iface 115 (D.agg [D.int .i64 p_1.snd.snd,D.int .i64 (61:Int)]))),[(0,Ob.val 2 (V.d (D.agg [D.sl 3 l,D.int .i64 i])))]):=by kernel_rfl
theorem g54(n k:Nat)(l:List D)(i v:Int)(t:Tr):zu cx (T4 k) n 74 [.ptr 0 0,.d (.int .i64 v),.d (trD t)] [(0,.val 2 (.d (.agg [.sl 3 l,.int .i64 i])))]=LP cx (T4 k) n 74 1 6 n [(0,V.ptr 0 0),(1,V.d (D.int .i64 v)),(5,V.ptr 6 0),(6,V.ptr 7 0)] [(0,Ob.val 2 (V.d (D.agg [D.sl 3 l,D.int .i64 i]))),(6,Ob.val 5 (V.d (D.agg [D.int .i64 t.k,D.str t.2,D.sl 5 t.3,D.sl 1 t.4,D.int .i64 t.pl]))),(7,Ob.val 5 (V.d (D.agg [D.int .i64 (0:Int),D.str [],D.sl 5 [],D.sl 1 [],D.int .i64 (0:Int)])))] (AK cx (T4 k) n 74 1 6 (EK cx 74 1)):=by kernel_rfl
theorem h49(n k r:Nat)(l ns:List D)(i:Int):LP cx (T4 k) n 69 1 2 (r+1) [(0,V.ptr 0 0),(3,V.sl 1 ns 7)] [(0,Ob.val 2 (V.d (D.agg [D.sl 3 l,D.int .i64 i]))),(7,Ob.tok ns.length)] (AK cx (T4 k) n 69 1 2 (EK cx 69 1))=zc (zg l i) λ p=>bif decide (p.fst=(1:Int)) then zc (zg l i) λ p=>bif decide (p.fst=1) then zh (decide (ns.length=ns.length)&&decide (ns.length+[D.str p.snd.1].length≤4294967296)) (LP cx (T4 k) n 69 1 2 r [(0,V.ptr 0 0),(3,V.sl 1 (ns++[D.str p.snd.1]) 7)] [(0,Ob.val 2 (V.d (D.agg [D.sl 3 l,D.int .i64 (up i)]))),(7,Ob.tok (ns.length+[D.str p.snd.1].length))] (AK cx (T4 k) n 69 1 2 (EK cx 69 1))) else some (Out.pan (V.d (D.iface 115 (D.agg [D.int .i64 p.snd.snd,D.int .i64 (61:Int)]))),[(0,Ob.val 2 (V.d (D.agg [D.sl 3 l,D.int .i64 i])))]) else some (Out.ret (V.d (D.sl 1 ns)),[(0,Ob.val 2 (V.d (D.agg [D.sl 3 l,D.int .i64 i])))]):=by kernel_rfl
theorem z30(n k r:Nat)(l:List D)(i v:Int)(t u:Tr):LP cx (T4 k) n 144 1 2 (r+1) [(0,V.ptr 0 0),(1,V.d (D.int .i64 v)),(4,V.ptr 5 0),(5,V.ptr 6 0)] [(0,Ob.val 2 (V.d (D.agg [D.sl 3 l,D.int .i64 i]))),(5,Ob.val 5 (V.d (trD u))),(6,Ob.val 5 (V.d (trD t)))] (AK cx (T4 k) n 144 1 2 (EK cx 144 1))=zc (zg l i) λ p=>bif zq p [92,47] then zc (zj4 k l (IntKind.i64.wrap (i+(1:Int))) v) λ p=>bif yp p then LP cx (T4 k) n 144 1 2 r [(0,V.ptr 0 0),(1,V.d (D.int .i64 v)),(4,V.ptr 5 0),(5,V.ptr 6 0)] [(0,Ob.val 2 (V.d (D.agg [D.sl 3 l,D.int .i64 (zn p)]))),(5,Ob.val 5 (V.d (D.agg [D.int .i64 u.k,D.str u.2,D.sl 5 u.3,D.sl 1 u.4,D.int .i64 u.pl]))),(6,Ob.val 5 (V.d (D.agg [D.int .i64 (14:Int),D.str [],D.sl 5 [D.agg [D.int .i64 t.k,D.str t.2,D.sl 5 t.3,D.sl 1 t.4,D.int .i64 t.pl],D.agg [D.int .i64 (zb p).k,D.str (zb p).2,D.sl 5 (zb p).3,D.sl 1 (zb p).4,D.int .i64 (zb p).pl]],D.sl 1 [],D.int .i64 t.pl])))] (AK cx (T4 k) n 144 1 2 (EK cx 144 1)) else some (Out.pan (V.d (D.iface 115 (D.agg [D.int .i64 (yt p),D.int .i64 (xj p)]))),[(0,Ob.val 2 (V.d (D.agg [D.sl 3 l,D.int .i64 (zn p)])))]) else some (Out.ret (V.d (D.agg [D.int .i64 t.k,D.str t.2,D.sl 5 t.3,D.sl 1 t.4,D.int .i64 t.pl])),[(0,Ob.val 2 (V.d (D.agg [D.sl 3 l,D.int .i64 i])))]):=by kernel_rfl
theorem z3y(n k r:Nat)(l:List D)(i v:Int)(t u:Tr):LP cx (T4 k) n 175 1 2 (r+1) [(0,V.ptr 0 0),(1,V.d (D.int .i64 v)),(4,V.ptr 5 0),(5,V.ptr 6 0)] [(0,Ob.val 2 (V.d (D.agg [D.sl 3 l,D.int .i64 i]))),(5,Ob.val 5 (V.d (trD u))),(6,Ob.val 5 (V.d (trD t)))] (AK cx (T4 k) n 175 1 2 (EK cx 175 1))=zc (zg l i) λ p=>bif zq p [47,92] then zc (zi5 k l (IntKind.i64.wrap (i+(1:Int))) v) λ p=>bif yp p then LP cx (T4 k) n 175 1 2 r [(0,V.ptr 0 0),(1,V.d (D.int .i64 v)),(4,V.ptr 5 0),(5,V.ptr 6 0)] [(0,Ob.val 2 (V.d (D.agg [D.sl 3 l,D.int .i64 (zn p)]))),(5,Ob.val 5 (V.d (D.agg [D.int .i64 u.k,D.str u.2,D.sl 5 u.3,D.sl 1 u.4,D.int .i64 u.pl]))),(6,Ob.val 5 (V.d (D.agg [D.int .i64 (15:Int),D.str [],D.sl 5 [D.agg [D.int .i64 t.k,D.str t.2,D.sl 5 t.3,D.sl 1 t.4,D.int .i64 t.pl],D.agg [D.int .i64 (zb p).k,D.str (zb p).2,D.sl 5 (zb p).3,D.sl 1 (zb p).4,D.int .i64 (zb p).pl]],D.sl 1 [],D.int .i64 t.pl])))] (AK cx (T4 k) n 175 1 2 (EK cx 175 1)) else some (Out.pan (V.d (D.iface 115 (D.agg [D.int .i64 (yt p),D.int .i64 (xj p)]))),[(0,Ob.val 2 (V.d (D.agg [D.sl 3 l,D.int .i64 (zn p)])))]) else some (Out.ret (V.d (D.agg [D.int .i64 t.k,D.str t.2,D.sl 5 t.3,D.sl 1 t.4,D.int .i64 t.pl])),[(0,Ob.val 2 (V.d (D.agg [D.sl 3 l,D.int .i64 i])))]):=by kernel_rfl
theorem h54(n k r:Nat)(l:List D)(i v:Int)(t u:Tr):LP cx (T4 k) n 74 1 6 (r+1) [(0,V.ptr 0 0),(1,V.d (D.int .i64 v)),(5,V.ptr 6 0),(6,V.ptr 7 0)] [(0,Ob.val 2 (V.d (D.agg [D.sl 3 l,D.int .i64 i]))),(6,Ob.val 5 (V.d (trD t))),(7,Ob.val 5 (V.d (trD u)))] (AK cx (T4 k) n 74 1 6 (EK cx 74 1))=zc (zg l i) λ p=>bif zq p [64] then zc (zi5 k l (IntKind.i64.wrap (i+(1:Int))) (IntKind.i64.wrap (v+(1:Int)))) λ p=>bif yp p then LP cx (T4 k) n 74 1 6 r [(0,V.ptr 0 0),(1,V.d (D.int .i64 v)),(5,V.ptr 6 0),(6,V.ptr 7 0)] [(0,Ob.val 2 (V.d (D.agg [D.sl 3 l,D.int .i64 (zn p)]))),(6,Ob.val 5 (V.d (D.agg [D.int .i64 (7:Int),D.str [],D.sl 5 [D.agg [D.int .i64 t.k,D.str t.2,D.sl 5 t.3,D.sl 1 t.4,D.int .i64 t.pl],D.agg [D.int .i64 (zb p).k,D.str (zb p).2,D.sl 5 (zb p).3,D.sl 1 (zb p).4,D.int .i64 (zb p).pl]],D.sl 1 [],D.int .i64 t.pl]))),(7,Ob.val 5 (V.d (D.agg [D.int .i64 u.k,D.str u.2,D.sl 5 u.3,D.sl 1 u.4,D.int .i64 u.pl])))] (AK cx (T4 k) n 74 1 6 (EK cx 74 1)) else some (Out.pan (V.d (D.iface 115 (D.agg [D.int .i64 (yt p),D.int .i64 (xj p)]))),[(0,Ob.val 2 (V.d (D.agg [D.sl 3 l,D.int .i64 (zn p)])))]) else zc (zg l i) λ p=>bif decide (p.fst=(1:Int)) then zc (zge k l i v) λ p=>bif yp p then LP cx (T4 k) n 74 1 6 r [(0,V.ptr 0 0),(1,V.d (D.int .i64 v)),(5,V.ptr 6 0),(6,V.ptr 7 0)] [(0,Ob.val 2 (V.d (D.agg [D.sl 3 l,D.int .i64 (zn p)]))),(6,Ob.val 5 (V.d (D.agg [D.int .i64 (6:Int),D.str [],D.sl 5 [D.agg [D.int .i64 t.k,D.str t.2,D.sl 5 t.3,D.sl 1 t.4,D.int .i64 t.pl],D.agg [D.int .i64 (zb p).k,D.str (zb p).2,D.sl 5 (zb p).3,D.sl 1 (zb p).4,D.int .i64 (zb p).pl]],D.sl 1 [],D.int .i64 t.pl]))),(7,Ob.val 5 (V.d (D.agg [D.int .i64 u.k,D.str u.2,D.sl 5 u.3,D.sl 1 u.4,D.int .i64 u.pl])))] (AK cx (T4 k) n 74 1 6 (EK cx 74 1)) else some (Out.pan (V.d (D.iface 115 (D.agg [D.int .i64 (yt p),D.int .i64 (xj p)]))),[(0,Ob.val 2 (V.d (D.agg [D.sl 3 l,D.int .i64 (zn p)])))]) else zc (zg l i) λ p=>bif zq p [40] then zc (zge k l i v) λ p=>bif yp p then LP cx (T4 k) n 74 1 6 r [(0,V.ptr 0 0),(1,V.d (D.int .i64 v)),(5,V.ptr 6 0),(6,V.ptr 7 0)] [(0,Ob.val 2 (V.d (D.agg [D.sl 3 l,D.int .i64 (zn p)]))),(6,Ob.val 5 (V.d (D.agg [D.int .i64 (6:Int),D.str [],D.sl 5 [D.agg [D.int .i64 t.k,D.str t.2,D.sl 5 t.3,D.sl 1 t.4,D.int .i64 t.pl],D.agg [D.int .i64 (zb p).k,D.str (zb p).2,D.sl 5 (zb p).3,D.sl 1 (zb p).4,D.int .i64 (zb p).pl]],D.sl 1 [],D.int .i64 t.pl]))),(7,Ob.val 5 (V.d (D.agg [D.int .i64 u.k,D.str u.2,D.sl 5 u.3,D.sl 1 u.4,D.int .i64 u.pl])))] (AK cx (T4 k) n 74 1 6 (EK cx 74 1)) else some (Out.pan (V.d (D.iface 115 (D.agg [D.int .i64 (yt p),D.int .i64 (xj p)]))),[(0,Ob.val 2 (V.d (D.agg [D.sl 3 l,D.int .i64 (zn p)])))]) else zc (zg l i) λ p=>bif zq p [91] then zc (zge k l i v) λ p=>bif yp p then LP cx (T4 k) n 74 1 6 r [(0,V.ptr 0 0),(1,V.d (D.int .i64 v)),(5,V.ptr 6 0),(6,V.ptr 7 0)] [(0,Ob.val 2 (V.d (D.agg [D.sl 3 l,D.int .i64 (zn p)]))),(6,Ob.val 5 (V.d (D.agg [D.int .i64 (6:Int),D.str [],D.sl 5 [D.agg [D.int .i64 t.k,D.str t.2,D.sl 5 t.3,D.sl 1 t.4,D.int .i64 t.pl],D.agg [D.int .i64 (zb p).k,D.str (zb p).2,D.sl 5 (zb p).3,D.sl 1 (zb p).4,D.int .i64 (zb p).pl]],D.sl 1 [],D.int .i64 t.pl]))),(7,Ob.val 5 (V.d (D.agg [D.int .i64 u.k,D.str u.2,D.sl 5 u.3,D.sl 1 u.4,D.int .i64 u.pl])))] (AK cx (T4 k) n 74 1 6 (EK cx 74 1)) else some (Out.pan (V.d (D.iface 115 (D.agg [D.int .i64 (yt p),D.int .i64 (xj p)]))),[(0,Ob.val 2 (V.d (D.agg [D.sl 3 l,D.int .i64 (zn p)])))]) else zc (zg l i) λ p=>bif !decide (za8 p=(0:Int)) then zc (xo k l (IntKind.i64.wrap (i+(1:Int))) (IntKind.i64.wrap (v+(1:Int)))) λ p_1=>bif yp p_1 then some (Out.ret (V.d (D.agg [D.int .i64 (za8 p),D.str [],D.sl 5 [D.agg [D.int .i64 t.k,D.str t.2,D.sl 5 t.3,D.sl 1 t.4,D.int .i64 t.pl],D.agg [D.int .i64 (zb p_1).k,D.str (zb p_1).2,D.sl 5 (zb p_1).3,D.sl 1 (zb p_1).4,D.int .i64 (zb p_1).pl]],D.sl 1 [],D.int .i64 t.pl])),[(0,Ob.val 2 (V.d (D.agg [D.sl 3 l,D.int .i64 (zn p_1)])))]) else some (Out.pan (V.d (D.iface 115 (D.agg [D.int .i64 (yt p_1),D.int .i64 (xj p_1)]))),[(0,Ob.val 2 (V.d (D.agg [D.sl 3 l,D.int .i64 (zn p_1)])))]) else some (Out.ret (V.d (D.agg [D.int .i64 t.k,D.str t.2,D.sl 5 t.3,D.sl 1 t.4,D.int .i64 t.pl])),[(0,Ob.val 2 (V.d (D.agg [D.sl 3 l,D.int .i64 i])))]):=by kernel_rfl
theorem z3z(n k r:Nat)(l kids:List D)(i a:Int)(u:Tr):LP cx (T4 k) n 145 1 5 (r+1) [(0,V.ptr 0 0),(2,V.ptr 3 0),(3,V.ptr 4 0)] [(0,Ob.val 2 (V.d (D.agg [D.sl 3 l,D.int .i64 i]))),(3,Ob.val 5 (V.d (trD u))),(4,Ob.val 5 (V.agg [V.d (D.int .i64 (12:Int)),V.d (D.str []),V.sl 5 kids 10,V.d (D.sl 1 []),V.d (D.int .i64 a)])),(10,Ob.tok kids.length)] (AK cx (T4 k) n 145 1 5 (EK cx 145 1))=zc (zg l i) λ p=>zc (zg l i) λ p_1=>bif zq p_1 [40] then zc (zg l (up i)) λ p_2=>bif decide (p_2.fst=1) then zc (zg l (up (up i))) λ p_3=>bif zq p_3 [61] then zc (zg l (up (up (up i)))) λ p_4=>bif !zq p_4 [48] then zc (zg l (up (up (up i)))) λ p_5=>bif !zq p_5 [49] then zc (zg l (up (up (up i)))) λ p=>some (Out.pan (V.d (D.iface 115 (D.agg [D.int .i64 p.snd.snd,D.int .i64 (61:Int)]))),[(0,Ob.val 2 (V.d (D.agg [D.sl 3 l,D.int .i64 (up (up (up i)))])))]) else zc (zg l (up (up (up i)))) λ p_6=>zc (zg l (up (up (up (up i))))) λ p_7=>bif zq p_7 [41] then zh (decide (kids.length=kids.length)&&decide (kids.length+[D.agg [D.int .i64 (13:Int),D.str p_2.snd.1,D.sl 5 [],D.sl 1 [D.str p_6.snd.1],D.int .i64 p.snd.snd]].length≤4294967296)) (zc (zg l (up (up (up (up (up i)))))) λ p_8=>bif !zq p_8 [40] then some (Out.ret (V.d (D.agg [D.int .i64 (12:Int),D.str [],D.sl 5 (kids++[D.agg [D.int .i64 (13:Int),D.str p_2.snd.1,D.sl 5 [],D.sl 1 [D.str p_6.snd.1],D.int .i64 p.snd.snd]]),D.sl 1 [],D.int .i64 a])),[(0,Ob.val 2 (V.d (D.agg [D.sl 3 l,D.int .i64 (up (up (up (up (up i)))))])))]) else LP cx (T4 k) n 145 1 5 r [(0,V.ptr 0 0),(2,V.ptr 3 0),(3,V.ptr 4 0)] [(0,Ob.val 2 (V.d (D.agg [D.sl 3 l,D.int .i64 (up (up (up (up (up i)))))]))),(3,Ob.val 5 (V.d (D.agg [D.int .i64 u.k,D.str u.2,D.sl 5 u.3,D.sl 1 u.4,D.int .i64 u.pl]))),(4,Ob.val 5 (V.agg [V.d (D.int .i64 (12:Int)),V.d (D.str []),V.sl 5 (kids++[D.agg [D.int .i64 (13:Int),D.str p_2.snd.1,D.sl 5 [],D.sl 1 [D.str p_6.snd.1],D.int .i64 p.snd.snd]]) 10,V.d (D.sl 1 []),V.d (D.int .i64 a)])),(10,Ob.tok (kids.length+[D.agg [D.int .i64 (13:Int),D.str p_2.snd.1,D.sl 5 [],D.sl 1 [D.str p_6.snd.1],D.int .i64 p.snd.snd]].length))] (AK cx (T4 k) n 145 1 5 (EK cx 145 1))) else some (Out.pan (V.d (D.iface 115 (D.agg [D.int .i64 p_7.snd.snd,D.int .i64 (61:Int)]))),[(0,Ob.val 2 (V.d (D.agg [D.sl 3 l,D.int .i64 (up (up (up (up i))))])))]) else zc (zg l (up (up (up i)))) λ p_5=>zc (zg l (up (up (up (up i))))) λ p_6=>bif zq p_6 [41] then zh (decide (kids.length=kids.length)&&decide (kids.length+[D.agg [D.int .i64 (13:Int),D.str p_2.snd.1,D.sl 5 [],D.sl 1 [D.str p_5.snd.1],D.int .i64 p.snd.snd]].length≤4294967296)) (zc (zg l (up (up (up (up (up i)))))) λ p_7=>bif !zq p_7 [40] then some (Out.ret (V.d (D.agg [D.int .i64 (12:Int),D.str [],D.sl 5 (kids++[D.agg [D.int .i64 (13:Int),D.str p_2.snd.1,D.sl 5 [],D.sl 1 [D.str p_5.snd.1],D.int .i64 p.snd.snd]]),D.sl 1 [],D.int .i64 a])),[(0,Ob.val 2 (V.d (D.agg [D.sl 3 l,D.int .i64 (up (up (up (up (up i)))))])))]) else LP cx (T4 k) n 145 1 5 r [(0,V.ptr 0 0),(2,V.ptr 3 0),(3,V.ptr 4 0)] [(0,Ob.val 2 (V.d (D.agg [D.sl 3 l,D.int .i64 (up (up (up (up (up i)))))]))),(3,Ob.val 5 (V.d (D.agg [D.int .i64 u.k,D.str u.2,D.sl 5 u.3,D.sl 1 u.4,D.int .i64 u.pl]))),(4,Ob.val 5 (V.agg [V.d (D.int .i64 (12:Int)),V.d (D.str []),V.sl 5 (kids++[D.agg [D.int .i64 (13:Int),D.str p_2.snd.1,D.sl 5 [],D.sl 1 [D.str p_5.snd.1],D.int .i64 p.snd.snd]]) 10,V.d (D.sl 1 []),V.d (D.int .i64 a)])),(10,Ob.tok (kids.length+[D.agg [D.int .i64 (13:Int),D.str p_2.snd.1,D.sl 5 [],D.sl 1 [D.str p_5.snd.1],D.int .i64 p.snd.snd]].length))] (AK cx (T4 k) n 145 1 5 (EK cx 145 1))) else some (Out.pan (V.d (D.iface 115 (D.agg [D.int .i64 p_6.snd.snd,D.int .i64 (61:Int)]))),[(0,Ob.val 2 (V.d (D.agg [D.sl 3 l,D.int .i64 (up (up (up (up i))))])))]) else some (Out.pan (V.d (D.iface 115 (D.agg [D.int .i64 p_3.snd.snd,D.int .i64 (61:Int)]))),[(0,Ob.val 2 (V.d (D.agg [D.sl 3 l,D.int .i64 (up (up i))])))]) else some (Out.pan (V.d (D.iface 115 (D.agg [D.int .i64 p_2.snd.snd,D.int .i64 (61:Int)]))),[(0,Ob.val 2 (V.d (D.agg [D.sl 3 l,D.int .i64 (up i)])))]) else some (Out.pan (V.d (D.iface 115 (D.agg [D.int .i64 p_1.snd.snd,D.int .i64 (61:Int)]))),[(0,Ob.val 2 (V.d (D.agg [D.sl 3 l,D.int .i64 i])))]):=by kernel_rfl
theorem h81(n k r:Nat)(l kids:List D)(i v a:Int)(u:Tr):LP cx (T4 k) n 105 1 2 (r+1) [(0,V.ptr 0 0),(1,V.d (D.int .i64 v)),(4,V.ptr 5 0),(5,V.ptr 6 0)] [(0,Ob.val 2 (V.d (D.agg [D.sl 3 l,D.int .i64 i]))),(5,Ob.val 5 (V.d (trD u))),(6,Ob.val 5 (V.agg [V.d (D.int .i64 (10:Int)),V.d (D.str []),V.sl 5 kids 11,V.d (D.sl 1 []),V.d (D.int .i64 a)])),(11,Ob.tok kids.length)] (AK cx (T4 k) n 105 1 2 (EK cx 105 1))=zc (zg l i) λ p=>bif !zq p [93] then bif decide ((0:Int)<(↑kids.length:Int)) then zc (zg l i) λ p=>bif zq p [44] then zc (zg l (up i)) λ p=>zc (zj5 k l (up i)) λ p_1=>bif yp p_1 then zc (zg l (zn p_1)) λ p_2=>bif zq p_2 [45,62] then zc (xo k l (IntKind.i64.wrap (zn p_1+(1:Int))) (IntKind.i64.wrap (v+(1:Int)))) λ p_3=>bif yp p_3 then zh (decide (kids.length=kids.length)&&decide (kids.length+[D.agg [D.int .i64 (11:Int),D.str [],D.sl 5 [D.agg [D.int .i64 (zb p_1).k,D.str (zb p_1).2,D.sl 5 (zb p_1).3,D.sl 1 (zb p_1).4,D.int .i64 (zb p_1).pl],D.agg [D.int .i64 (zb p_3).k,D.str (zb p_3).2,D.sl 5 (zb p_3).3,D.sl 1 (zb p_3).4,D.int .i64 (zb p_3).pl]],D.sl 1 [],D.int .i64 p.snd.snd]].length≤4294967296)) (LP cx (T4 k) n 105 1 2 r [(0,V.ptr 0 0),(1,V.d (D.int .i64 v)),(4,V.ptr 5 0),(5,V.ptr 6 0)] [(0,Ob.val 2 (V.d (D.agg [D.sl 3 l,D.int .i64 (zn p_3)]))),(5,Ob.val 5 (V.d (D.agg [D.int .i64 u.k,D.str u.2,D.sl 5 u.3,D.sl 1 u.4,D.int .i64 u.pl]))),(6,Ob.val 5 (V.agg [V.d (D.int .i64 (10:Int)),V.d (D.str []),V.sl 5 (kids++[D.agg [D.int .i64 (11:Int),D.str [],D.sl 5 [D.agg [D.int .i64 (zb p_1).k,D.str (zb p_1).2,D.sl 5 (zb p_1).3,D.sl 1 (zb p_1).4,D.int .i64 (zb p_1).pl],D.agg [D.int .i64 (zb p_3).k,D.str (zb p_3).2,D.sl 5 (zb p_3).3,D.sl 1 (zb p_3).4,D.int .i64 (zb p_3).pl]],D.sl 1 [],D.int .i64 p.snd.snd]]) 11,V.d (D.sl 1 []),V.d (D.int .i64 a)])),(11,Ob.tok (kids.length+[D.agg [D.int .i64 (11:Int),D.str [],D.sl 5 [D.agg [D.int .i64 (zb p_1).k,D.str (zb p_1).2,D.sl 5 (zb p_1).3,D.sl 1 (zb p_1).4,D.int .i64 (zb p_1).pl],D.agg [D.int .i64 (zb p_3).k,D.str (zb p_3).2,D.sl 5 (zb p_3).3,D.sl 1 (zb p_3).4,D.int .i64 (zb p_3).pl]],D.sl 1 [],D.int .i64 p.snd.snd]].length))] (AK cx (T4 k) n 105 1 2 (EK cx 105 1))) else some (Out.pan (V.d (D.iface 115 (D.agg [D.int .i64 (yt p_3),D.int .i64 (xj p_3)]))),[(0,Ob.val 2 (V.d (D.agg [D.sl 3 l,D.int .i64 (zn p_3)])))]) else zh (decide (kids.length=kids.length)&&decide (kids.length+[D.agg [D.int .i64 (11:Int),D.str [],D.sl 5 [D.agg [D.int .i64 (zb p_1).k,D.str (zb p_1).2,D.sl 5 (zb p_1).3,D.sl 1 (zb p_1).4,D.int .i64 (zb p_1).pl]],D.sl 1 [],D.int .i64 p.snd.snd]].length≤4294967296)) (LP cx (T4 k) n 105 1 2 r [(0,V.ptr 0 0),(1,V.d (D.int .i64 v)),(4,V.ptr 5 0),(5,V.ptr 6 0)] [(0,Ob.val 2 (V.d (D.agg [D.sl 3 l,D.int .i64 (zn p_1)]))),(5,Ob.val 5 (V.d (D.agg [D.int .i64 u.k,D.str u.2,D.sl 5 u.3,D.sl 1 u.4,D.int .i64 u.pl]))),(6,Ob.val 5 (V.agg [V.d (D.int .i64 (10:Int)),V.d (D.str []),V.sl 5 (kids++[D.agg [D.int .i64 (11:Int),D.str [],D.sl 5 [D.agg [D.int .i64 (zb p_1).k,D.str (zb p_1).2,D.sl 5 (zb p_1).3,D.sl 1 (zb p_1).4,D.int .i64 (zb p_1).pl]],D.sl 1 [],D.int .i64 p.snd.snd]]) 11,V.d (D.sl 1 []),V.d (D.int .i64 a)])),(11,Ob.tok (kids.length+[D.agg [D.int .i64 (11:Int),D.str [],D.sl 5 [D.agg [D.int .i64 (zb p_1).k,D.str (zb p_1).2,D.sl 5 (zb p_1).3,D.sl 1 (zb p_1).4,D.int .i64 (zb p_1).pl]],D.sl 1 [],D.int .i64 p.snd.snd]].length))] (AK cx (T4 k) n 105 1 2 (EK cx 105 1))) else some (Out.pan (V.d (D.iface 115 (D.agg [D.int .i64 (yt p_1),D.int .i64 (xj p_1)]))),[(0,Ob.val 2 (V.d (D.agg [D.sl 3 l,D.int .i64 (zn p_1)])))]) else some (Out.pan (V.d (D.iface 115 (D.agg [D.int .i64 p.snd.snd,D.int .i64 (61:Int)]))),[(0,Ob.val 2 (V.d (D.agg [D.sl 3 l,D.int .i64 i])))]) else zc (zg l i) λ p=>zc (zj5 k l i) λ p_1=>bif yp p_1 then zc (zg l (zn p_1)) λ p_2=>bif zq p_2 [45,62] then zc (xo k l (IntKind.i64.wrap (zn p_1+(1:Int))) (IntKind.i64.wrap (v+(1:Int)))) λ p_3=>bif yp p_3 then zh (decide (kids.length=kids.length)&&decide (kids.length+[D.agg [D.int .i64 (11:Int),D.str [],D.sl 5 [D.agg [D.int .i64 (zb p_1).k,D.str (zb p_1).2,D.sl 5 (zb p_1).3,D.sl 1 (zb p_1).4,D.int .i64 (zb p_1).pl],D.agg [D.int .i64 (zb p_3).k,D.str (zb p_3).2,D.sl 5 (zb p_3).3,D.sl 1 (zb p_3).4,D.int .i64 (zb p_3).pl]],D.sl 1 [],D.int .i64 p.snd.snd]].length≤4294967296)) (LP cx (T4 k) n 105 1 2 r [(0,V.ptr 0 0),(1,V.d (D.int .i64 v)),(4,V.ptr 5 0),(5,V.ptr 6 0)] [(0,Ob.val 2 (V.d (D.agg [D.sl 3 l,D.int .i64 (zn p_3)]))),(5,Ob.val 5 (V.d (D.agg [D.int .i64 u.k,D.str u.2,D.sl 5 u.3,D.sl 1 u.4,D.int .i64 u.pl]))),(6,Ob.val 5 (V.agg [V.d (D.int .i64 (10:Int)),V.d (D.str []),V.sl 5 (kids++[D.agg [D.int .i64 (11:Int),D.str [],D.sl 5 [D.agg [D.int .i64 (zb p_1).k,D.str (zb p_1).2,D.sl 5 (zb p_1).3,D.sl 1 (zb p_1).4,D.int .i64 (zb p_1).pl],D.agg [D.int .i64 (zb p_3).k,D.str (zb p_3).2,D.sl 5 (zb p_3).3,D.sl 1 (zb p_3).4,D.int .i64 (zb p_3).pl]],D.sl 1 [],D.int .i64 p.snd.snd]]) 11,V.d (D.sl 1 []),V.d (D.int .i64 a)])),(11,Ob.tok (kids.length+[D.agg [D.int .i64 (11:Int),D.str [],D.sl 5 [D.agg [D.int .i64 (zb p_1).k,D.str (zb p_1).2,D.sl 5 (zb p_1).3,D.sl 1 (zb p_1).4,D.int .i64 (zb p_1).pl],D.agg [D.int .i64 (zb p_3).k,D.str (zb p_3).2,D.sl 5 (zb p_3).3,D.sl 1 (zb p_3).4,D.int .i64 (zb p_3).pl]],D.sl 1 [],D.int .i64 p.snd.snd]].length))] (AK cx (T4 k) n 105 1 2 (EK cx 105 1))) else some (Out.pan (V.d (D.iface 115 (D.agg [D.int .i64 (yt p_3),D.int .i64 (xj p_3)]))),[(0,Ob.val 2 (V.d (D.agg [D.sl 3 l,D.int .i64 (zn p_3)])))]) else zh (decide (kids.length=kids.length)&&decide (kids.length+[D.agg [D.int .i64 (11:Int),D.str [],D.sl 5 [D.agg [D.int .i64 (zb p_1).k,D.str (zb p_1).2,D.sl 5 (zb p_1).3,D.sl 1 (zb p_1).4,D.int .i64 (zb p_1).pl]],D.sl 1 [],D.int .i64 p.snd.snd]].length≤4294967296)) (LP cx (T4 k) n 105 1 2 r [(0,V.ptr 0 0),(1,V.d (D.int .i64 v)),(4,V.ptr 5 0),(5,V.ptr 6 0)] [(0,Ob.val 2 (V.d (D.agg [D.sl 3 l,D.int .i64 (zn p_1)]))),(5,Ob.val 5 (V.d (D.agg [D.int .i64 u.k,D.str u.2,D.sl 5 u.3,D.sl 1 u.4,D.int .i64 u.pl]))),(6,Ob.val 5 (V.agg [V.d (D.int .i64 (10:Int)),V.d (D.str []),V.sl 5 (kids++[D.agg [D.int .i64 (11:Int),D.str [],D.sl 5 [D.agg [D.int .i64 (zb p_1).k,D.str (zb p_1).2,D.sl 5 (zb p_1).3,D.sl 1 (zb p_1).4,D.int .i64 (zb p_1).pl]],D.sl 1 [],D.int .i64 p.snd.snd]]) 11,V.d (D.sl 1 []),V.d (D.int .i64 a)])),(11,Ob.tok (kids.length+[D.agg [D.int .i64 (11:Int),D.str [],D.sl 5 [D.agg [D.int .i64 (zb p_1).k,D.str (zb p_1).2,D.sl 5 (zb p_1).3,D.sl 1 (zb p_1).4,D.int .i64 (zb p_1).pl]],D.sl 1 [],D.int .i64 p.snd.snd]].length))] (AK cx (T4 k) n 105 1 2 (EK cx 105 1))) else some (Out.pan (V.d (D.iface 115 (D.agg [D.int .i64 (yt p_1),D.int .i64 (xj p_1)]))),[(0,Ob.val 2 (V.d (D.agg [D.sl 3 l,D.int .i64 (zn p_1)])))]) else some (Out.ret (V.d (D.agg [D.int .i64 (10:Int),D.str [],D.sl 5 kids,D.sl 1 [],D.int .i64 a])),[(0,Ob.val 2 (V.d (D.agg [D.sl 3 l,D.int .i64 (IntKind.i64.wrap (i+(1:Int)))])))]):=by kernel_rfl
theorem g55(n:Nat)(l:List D)(k a:Int):zu cx T3 n 75 [.d (.int .i64 k),.d (.int .i64 a),.d (.sl 5 l)] []=some (Out.ret (V.d (D.agg [D.int .i64 k,D.str [],D.sl 5 l,D.sl 1 [],D.int .i64 a])),[]):=by kernel_rfl
theorem z32(n m:Nat)(l:List D)(k a:Int):zu cx T3 n 75 [.d (.int .i64 k),.d (.int .i64 a),.sl 5 l 0] [(0,.tok m)]=some (Out.ret (V.agg [V.d (D.int .i64 k),V.d (D.str []),V.sl 5 l 0,V.d (D.sl 1 []),V.d (D.int .i64 a)]),[(0,Ob.tok m)]):=by kernel_rfl
theorem yw{α R:Type}{o:Option α}{F G:α→Option R}(h:∀ x,o=some x→F x=G x):zc o F=zc o G:=by
 cases o with
 | none=>rfl
 | some x=>exact h x rfl
theorem zj{α R:Type}{x:α}{F:α→Option R}:zc (some x) F=F x:=rfl
theorem xh{R:Type}{c:Bool}{a b a' b':Option R}(h:c=true→a=a')(h':c=false→b=b'):(bif c then a else b)=bif c then a' else b':=by
 cases c
 ·exact h' rfl
 ·exact h rfl
theorem y7{R:Type}{c:Bool}{a a':Option R}(h:a=a'):zh c a=zh c a':=by rw [h]
theorem zba{R:Type}{c:Bool}{a b:Option R}:(bif !c then a else b)=bif c then b else a:=by cases c <;> rfl
theorem zg5{R:Type}{c d:Bool}{a b:Option R}:(bif c||d then a else b)=bif c then a else bif d then a else b:=by cases c <;> rfl
theorem xv(l:List D)(x:D):decide (l.length+[x].length≤4294967296)=vy l:=by
 unfold vy;simp only [List.length_singleton];exact decide_eq_decide.2 (by omega)
theorem vh(k:Nat)(l:List D)(i:Int):(zz k).names l i=zh6 k l i:=rfl
theorem zac(k:Nat)(l:List D)(i:Int):(zz k).face l i=zj5 k l i:=rfl
theorem q9(k:Nat)(l:List D)(i v:Int):(zz k).term l i v=xo k l i v:=rfl
theorem vi(k:Nat)(l:List D)(i v:Int)(t:Tr):(zz k).after l i v t=zib k l i v t:=rfl
theorem zad(k:Nat)(l:List D)(i v:Int):(zz k).atom l i v=zge k l i v:=rfl
theorem zcl(k:Nat)(l:List D)(i v:Int):(zz k).box l i v=ztl k l i v:=rfl
theorem zab(k:Nat)(l:List D)(i v:Int):(zz k).join l i v=zpz k l i v:=rfl
theorem zaa(k:Nat)(l:List D)(i v:Int):(zz k).meet l i v=zj4 k l i v:=rfl
theorem zck(k:Nat)(l:List D)(i v:Int):(zz k).dim l i v=zi5 k l i v:=rfl
theorem s25(n k:Nat)(l:List D)(i v:Int):zu cx (T4 k) n 41 [.ptr 0 0,.d (.int .i64 v)] (xw l i)=vc (zfs (zz k) l i v) λ o j=>some (o,xw l j):=by
 rw [g25];unfold vc zfs zh9 wb ym;simp only [zp,zx,zi,zj,vh,zac,q9,vi,zad,zcl,zab,zaa,zck,zba,zg5,decide_true,Bool.true_and,xv];cases hp:zg l i with
 | none=>first | rfl | (simp only [zc]; done) | (simp only [zc]; cases decide (200<v) <;> rfl)
 | some p=>
  simp only [hp,zj];repeat' (first | (with_reducible refine yw λ x hx=>?_; try simp only [hx,zj]) | (with_reducible refine xh (λ h=>?_) (λ h=>?_) <;> try simp only [h,p5,p6,zj]) | (with_reducible refine y7 ?_) | rfl)
theorem s56(n k:Nat)(l:List D)(i v:Int):zu cx (T4 k) n 76 [.ptr 0 0,.d (.int .i64 v)] (xw l i)=vc (zfz (zz k) l i v) λ o j=>some (o,xw l j):=by
 rw [g56];unfold vc zfz wb ym;simp only [zp,zx,zi,zj,vh,zac,q9,vi,zad,zcl,zab,zaa,zck,zba,zg5,decide_true,Bool.true_and,xv];cases hp:zg l i with
 | none=>first | rfl | (simp only [zc]; done) | (simp only [zc]; cases decide (200<v) <;> rfl)
 | some p=>
  simp only [hp,zj];repeat' (first | (with_reducible refine yw λ x hx=>?_; try simp only [hx,zj]) | (with_reducible refine xh (λ h=>?_) (λ h=>?_) <;> try simp only [h,p5,p6,zj]) | (with_reducible refine y7 ?_) | rfl)
theorem s80(n k:Nat)(l:List D)(i v:Int):zu cx (T4 k) n 104 [.ptr 0 0,.d (.int .i64 v)] (xw l i)=vc (zh8 (zz k) l i v) λ o j=>some (o,xw l j):=by
 rw [g80];unfold vc zh8 wb ym;simp only [zp,zx,zi,zj,vh,zac,q9,vi,zad,zcl,zab,zaa,zck,zba,zg5,decide_true,Bool.true_and,xv];cases hp:zg l i with
 | none=>first | rfl | (simp only [zc]; done) | (simp only [zc]; cases decide (200<v) <;> rfl)
 | some p=>
  simp only [hp,zj];repeat' (first | (with_reducible refine yw λ x hx=>?_; try simp only [hx,zj]) | (with_reducible refine xh (λ h=>?_) (λ h=>?_) <;> try simp only [h,p5,p6,zj]) | (with_reducible refine y7 ?_) | rfl)
theorem s28(n k:Nat)(l:List D)(i:Int):zu cx (T4 k) n 83 [.ptr 0 0] (xw l i)=vc (zmp (zz k) l i) λ o j=>some (o,xw l j):=by
 rw [g28];unfold vc zmp zh7 wb ym;simp only [zp,zx,zi,zj,vh,zac,q9,vi,zad,zcl,zab,zaa,zck,zba,zg5,decide_true,Bool.true_and,xv];cases hp:zg l i with
 | none=>first | rfl | (simp only [zc]; done) | (simp only [zc]; cases decide (200<v) <;> rfl)
 | some p=>
  simp only [hp,zj];repeat' (first | (with_reducible refine yw λ x hx=>?_; try simp only [hx,zj]) | (with_reducible refine xh (λ h=>?_) (λ h=>?_) <;> try simp only [h,p5,p6,zj]) | (with_reducible refine y7 ?_) | rfl)
theorem z1q(n k:Nat)(l:List D)(v:Int):∀ (r:Nat) (i:Int) (t u:Tr),LP cx (T4 k) n 144 1 2 r [(0,V.ptr 0 0),(1,V.d (D.int .i64 v)),(4,V.ptr 5 0),(5,V.ptr 6 0)] [(0,Ob.val 2 (V.d (D.agg [D.sl 3 l,D.int .i64 i]))),(5,Ob.val 5 (V.d (trD u))),(6,Ob.val 5 (V.d (trD t)))] (AK cx (T4 k) n 144 1 2 (EK cx 144 1))=vc (zdu (zz k) r l i v t) λ o j=>some (o,xw l j)
 | 0,i,t,u=>rfl
 | r+1,i,t,u=>by
  rw [z30];unfold vc zdu;simp only [ym];simp only [zp,zx,zi,zj,vh,zac,q9,vi,zad,zcl,zab,zaa,zck,zba,zg5,decide_true,Bool.true_and,xv];repeat' (first | (exact z1q n k l v r _ ⟨14,[],[trD t,trD (zb _)],[],t.pl⟩ u) | (with_reducible refine yw λ x hx=>?_; try simp only [hx,zj]) | (with_reducible refine xh (λ h=>?_) (λ h=>?_) <;> try simp only [h,p5,p6,zj]) | (with_reducible refine y7 ?_) | rfl)
theorem z1o(n k:Nat)(l:List D)(v:Int):∀ (r:Nat) (i:Int) (t u:Tr),LP cx (T4 k) n 175 1 2 r [(0,V.ptr 0 0),(1,V.d (D.int .i64 v)),(4,V.ptr 5 0),(5,V.ptr 6 0)] [(0,Ob.val 2 (V.d (D.agg [D.sl 3 l,D.int .i64 i]))),(5,Ob.val 5 (V.d (trD u))),(6,Ob.val 5 (V.d (trD t)))] (AK cx (T4 k) n 175 1 2 (EK cx 175 1))=vc (zdt (zz k) r l i v t) λ o j=>some (o,xw l j)
 | 0,i,t,u=>rfl
 | r+1,i,t,u=>by
  rw [z3y];unfold vc zdt;simp only [ym];simp only [zp,zx,zi,zj,vh,zac,q9,vi,zad,zcl,zab,zaa,zck,zba,zg5,decide_true,Bool.true_and,xv];repeat' (first | (exact z1o n k l v r _ ⟨15,[],[trD t,trD (zb _)],[],t.pl⟩ u) | (with_reducible refine yw λ x hx=>?_; try simp only [hx,zj]) | (with_reducible refine xh (λ h=>?_) (λ h=>?_) <;> try simp only [h,p5,p6,zj]) | (with_reducible refine y7 ?_) | rfl)
theorem u54(n k:Nat)(l:List D)(v:Int):∀ (r:Nat) (i:Int) (t u:Tr),LP cx (T4 k) n 74 1 6 r [(0,V.ptr 0 0),(1,V.d (D.int .i64 v)),(5,V.ptr 6 0),(6,V.ptr 7 0)] [(0,Ob.val 2 (V.d (D.agg [D.sl 3 l,D.int .i64 i]))),(6,Ob.val 5 (V.d (trD t))),(7,Ob.val 5 (V.d (trD u)))] (AK cx (T4 k) n 74 1 6 (EK cx 74 1))=vc (zat (zz k) r l i v t) λ o j=>some (o,xw l j)
 | 0,i,t,u=>rfl
 | r+1,i,t,u=>by
  rw [h54];unfold vc zat;simp only [ym];simp only [zp,zx,zi,zj,vh,zac,q9,vi,zad,zcl,zab,zaa,zck,zba,zg5,decide_true,Bool.true_and,xv];repeat' (first | (exact u54 n k l v r _ ⟨7,[],[trD t,trD (zb _)],[],t.pl⟩ u) | (exact u54 n k l v r _ ⟨6,[],[trD t,trD (zb _)],[],t.pl⟩ u) | (with_reducible refine yw λ x hx=>?_; try simp only [hx,zj]) | (with_reducible refine xh (λ h=>?_) (λ h=>?_) <;> try simp only [h,p5,p6,zj]) | (with_reducible refine y7 ?_) | rfl)
theorem u49(n k:Nat)(l:List D)  : ∀ (r:Nat) (i:Int) (ns:List D),LP cx (T4 k) n 69 1 2 r [(0,V.ptr 0 0),(3,V.sl 1 ns 7)] [(0,Ob.val 2 (V.d (D.agg [D.sl 3 l,D.int .i64 i]))),(7,Ob.tok ns.length)] (AK cx (T4 k) n 69 1 2 (EK cx 69 1))=zc (zcg r l i ns) λ p=>bif zi4 p then some (.ret (.d (.sl 1 (zoq p))),xw l (w5 p)) else some (.pan (zch (zgd p) (zi6 p)),xw l (w5 p))
 | 0,_,_=>rfl
 | r+1,i,ns=>by
  rw [h49]
  skip
  simp only [zcg];simp only [zp,zx,zi,zj,vh,zac,q9,vi,zad,zcl,zab,zaa,zck,zba,zg5,decide_true,Bool.true_and,xv];try simp only [←ph]
  repeat' (first | (exact u49 n k l r _ _) | (with_reducible refine yw λ x hx=>?_; try simp only [hx,zj]) | (with_reducible refine xh (λ h=>?_) (λ h=>?_) <;> try simp only [h,p5,p6,zj]) | (with_reducible refine y7 ?_) | rfl)
theorem z1p(n k:Nat)(l:List D)(a:Int)(u:Tr):∀ (r:Nat) (i:Int) (kids:List D),LP cx (T4 k) n 145 1 5 r [(0,V.ptr 0 0),(2,V.ptr 3 0),(3,V.ptr 4 0)] [(0,Ob.val 2 (V.d (D.agg [D.sl 3 l,D.int .i64 i]))),(3,Ob.val 5 (V.d (trD u))),(4,Ob.val 5 (V.agg [V.d (D.int .i64 (12:Int)),V.d (D.str []),V.sl 5 kids 10,V.d (D.sl 1 []),V.d (D.int .i64 a)])),(10,Ob.tok kids.length)] (AK cx (T4 k) n 145 1 5 (EK cx 145 1))=vc (zdv r l i kids a) λ o j=>some (o,xw l j)
 | 0,_,_=>rfl
 | r+1,i,kids=>by
  rw [z3z];unfold vc;simp only [zdv,zh7,wb,ym];simp only [zp,zx,zi,zj,vh,zac,q9,vi,zad,zcl,zab,zaa,zck,zba,zg5,decide_true,Bool.true_and,xv];try simp only [←ph]
  repeat' (first | (exact z1p n k l a u r _ _) | (with_reducible refine yw λ x hx=>?_; try simp only [hx,zj]) | (with_reducible refine xh (λ h=>?_) (λ h=>?_) <;> try simp only [h,p5,p6,zj]) | (with_reducible refine y7 ?_) | rfl)
theorem u81(n k:Nat)(l:List D)(v a:Int)(u:Tr):∀ (r:Nat) (i:Int) (kids:List D),LP cx (T4 k) n 105 1 2 r [(0,V.ptr 0 0),(1,V.d (D.int .i64 v)),(4,V.ptr 5 0),(5,V.ptr 6 0)] [(0,Ob.val 2 (V.d (D.agg [D.sl 3 l,D.int .i64 i]))),(5,Ob.val 5 (V.d (trD u))),(6,Ob.val 5 (V.agg [V.d (D.int .i64 (10:Int)),V.d (D.str []),V.sl 5 kids 11,V.d (D.sl 1 []),V.d (D.int .i64 a)])),(11,Ob.tok kids.length)] (AK cx (T4 k) n 105 1 2 (EK cx 105 1))=vc (zb7 (zz k) r l i v kids a) λ o j=>some (o,xw l j)
 | 0,_,_=>rfl
 | r+1,i,kids=>by
  rw [h81];unfold vc;simp only [zb7,zmq,wb,ym];simp only [zp,zx,zi,zj,vh,zac,q9,vi,zad,zcl,zab,zaa,zck,zba,zg5,decide_true,Bool.true_and,xv];try simp only [←ph]
  repeat' (first | (exact u81 n k l v a u r _ _) | (with_reducible refine yw λ x hx=>?_; try simp only [hx,zj]) | (with_reducible refine xh (λ h=>?_) (λ h=>?_) <;> try simp only [h,p5,p6,zj]) | (with_reducible refine y7 ?_) | rfl)
theorem z3l(n k:Nat)(l:List D)(i v:Int):zu cx (T4 k) n 144 [.ptr 0 0,.d (.int .i64 v)] (xw l i)=vc (zfv (zz k) n l i v) λ o j=>some (o,xw l j):=by
 rw [z36];unfold vc zfv ym;simp only [zp,zx,zi,zj,vh,zac,q9,vi,zad,zcl,zab,zaa,zck,zba,zg5,decide_true,Bool.true_and,xv];repeat' (first | (exact z1q n k l v n _ (zb _) ⟨0,[],[],[],0⟩) | (with_reducible refine yw λ x hx=>?_; try simp only [hx,zj]) | (with_reducible refine xh (λ h=>?_) (λ h=>?_) <;> try simp only [h,p5,p6,zj]) | (with_reducible refine y7 ?_) | rfl)
theorem z3j(n k:Nat)(l:List D)(i v:Int):zu cx (T4 k) n 175 [.ptr 0 0,.d (.int .i64 v)] (xw l i)=vc (zfu (zz k) n l i v) λ o j=>some (o,xw l j):=by
 rw [z34];unfold vc zfu ym;simp only [zp,zx,zi,zj,vh,zac,q9,vi,zad,zcl,zab,zaa,zck,zba,zg5,decide_true,Bool.true_and,xv];repeat' (first | (exact z1o n k l v n _ (zb _) ⟨0,[],[],[],0⟩) | (with_reducible refine yw λ x hx=>?_; try simp only [hx,zj]) | (with_reducible refine xh (λ h=>?_) (λ h=>?_) <;> try simp only [h,p5,p6,zj]) | (with_reducible refine y7 ?_) | rfl)
theorem z3k(n k:Nat)(l:List D)(i:Int):zu cx (T4 k) n 145 [.ptr 0 0] (xw l i)=vc (zfw n l i) λ o j=>some (o,xw l j):=by
 rw [z35];unfold vc zfw;simp only [zp,zx,zi,zj,vh,zac,q9,vi,zad,zcl,zab,zaa,zck,zba,zg5,decide_true,Bool.true_and,xv];repeat' (first | (exact z1p n k l _ ⟨0,[],[],[],0⟩ n _ _) | (with_reducible refine yw λ x hx=>?_; try simp only [hx,zj]) | (with_reducible refine xh (λ h=>?_) (λ h=>?_) <;> try simp only [h,p5,p6,zj]) | (with_reducible refine y7 ?_) | rfl)
theorem s81(n k:Nat)(l:List D)(i v:Int):zu cx (T4 k) n 105 [.ptr 0 0,.d (.int .i64 v)] (xw l i)=vc (zia (zz k) n l i v) λ o j=>some (o,xw l j):=by
 rw [g81];unfold vc zia;simp only [zp,zx,zi,zj,vh,zac,q9,vi,zad,zcl,zab,zaa,zck,zba,zg5,decide_true,Bool.true_and,xv];repeat' (first | (exact u81 n k l v _ ⟨0,[],[],[],0⟩ n _ _) | (with_reducible refine yw λ x hx=>?_; try simp only [hx,zj]) | (with_reducible refine xh (λ h=>?_) (λ h=>?_) <;> try simp only [h,p5,p6,zj]) | (with_reducible refine y7 ?_) | rfl)
theorem s54(n k:Nat)(l:List D)(i v:Int)(t:Tr):zu cx (T4 k) n 74 [.ptr 0 0,.d (.int .i64 v),.d (trD t)] (xw l i)=vc (zat (zz k) n l i v t) λ o j=>some (o,xw l j):=by
 rw [g54];exact u54 n k l v n i t ⟨0,[],[],[],0⟩
theorem s49(n k:Nat)(l:List D)(i:Int):zu cx (T4 k) n 69 [.ptr 0 0] (xw l i)=zc (zds n l i) λ p=>bif zi4 p then some (.ret (.d (.sl 1 (zoq p))),xw l (w5 p)) else some (.pan (zch (zgd p) (zi6 p)),xw l (w5 p)):=by
 rw [g49];unfold zds;simp only [zp,zx,zi,zj,vh,zac,q9,vi,zad,zcl,zab,zaa,zck,zba,zg5,decide_true,Bool.true_and,xv];repeat' (first | (exact u49 n k l n _ [_]) | (with_reducible refine yw λ x hx=>?_; try simp only [hx,zj]) | (with_reducible refine xh (λ h=>?_) (λ h=>?_) <;> try simp only [h,p5,p6,zj]) | (with_reducible refine y7 ?_) | rfl)
theorem zs7{a:List V}{σ:St}{q:Int×Int×List D×Option Nat}(h:zua a σ=some q):(∃ k p l,q=(k,p,l,none)∧a=[.d (.int .i64 k),.d (.int .i64 p),.d (.sl 5 l)]∧σ=[])∨∃ k p l m,q=(k,p,l,some m)∧a=[.d (.int .i64 k),.d (.int .i64 p),.sl 5 l 0]∧σ=[(0,.tok m)]:=by
 unfold zua at h;split at h
 ·cases h; exact .inl ⟨_,_,_,rfl,rfl,rfl⟩
 ·cases h; exact .inr ⟨_,_,_,_,rfl,rfl,rfl⟩
 ·cases h
theorem zks:knows cx (z0g T3).S (zl cx):=by
 intro g args σ r hd h;simp only [z0g] at h;cases hg:Nat.beq g 75 <;> rw [hg] at h
 ·exact zry g args σ r hd h
 ·obtain rfl:=po hg;simp only [p5] at h;obtain ⟨q,hq,h⟩:=za h;refine zw zry (N:=0) ?_;rcases zs7 hq with ⟨k,p,l,rfl,rfl,rfl⟩ | ⟨k,p,l,m,rfl,rfl,rfl⟩
  ·rw [g55]; exact h
  ·rw [z32]; exact h
theorem zmo:∀ k,knows cx (T4 k).S (zl cx)
 | 0=>by
  unfold T4;refine yf (yf (yf (yf (yf (yf (yf (yf (yf zks ?_) ?_) ?_) ?_) ?_) ?_) ?_) ?_) ?_ <;> (intro l i x r a hd h; cases h)
 | k+1=>by
  have hT:=zmo k;unfold T4;refine yf (yf (yf (yf (yf (yf (yf (yf (yf zks ?_) ?_) ?_) ?_) ?_) ?_) ?_) ?_) ?_
  ·intro l i x r a hd h;rw [zar hd]; refine zw hT (N:=k) ?_; exact (s49 k k l i).trans h
  ·intro l i x r a hd h;rw [zaq hd]; refine zw hT (N:=k) ?_; exact (s80 k k l i x).trans h
  ·intro l i x r a hd h;rw [zaq hd]; refine zw hT (N:=k) ?_; exact (z3j k k l i x).trans h
  ·intro l i x r a hd h;rw [zaq hd]; refine zw hT (N:=k) ?_; exact (z3l k k l i x).trans h
  ·intro l i x r a hd h;rw [zar hd]; refine zw hT (N:=k) ?_; exact (z3k k k l i).trans h
  ·intro l i x r a hd h;rw [zaq hd]; refine zw hT (N:=k) ?_; exact (s81 k k l i x).trans h
  ·intro l i x r a hd h;rw [zaq hd]; refine zw hT (N:=k) ?_; exact (s56 k k l i x).trans h
  ·intro l i x r a hd h;rw [zvi hd]; refine zw hT (N:=k) ?_; exact (s54 k k l i x.1 x.2).trans h
  ·intro l i x r a hd h;rw [zaq hd]; refine zw hT (N:=k) ?_; exact (s25 k k l i x).trans h
theorem zyr(k:Nat)(l:List D)(i:Int){r:R1}(h:vc (zj6 k l i) (λ o j=>some (o,xw l j))=some r):zl cx 83 [.ptr 0 0] (xw l i)=some r:=
 zw (zmo k) (N:=0) (by rw [s28]; exact h)
noncomputable def T5(k:Nat):CK R1:=rdr 83 (F28 k) (T4 k)
theorem zmn(k:Nat):knows cx (T5 k).S (zl cx):=yf (zmo k) λ l i x r a hd h=>by
 rw [zar hd];exact zyr k l i h
inductive PL where
 | ok (ds:List D) (j:Int)
 | bad (a e j:Int) (ds:List D)
def zx5:PL→Bool | .ok _ _=>true | _=>false
def zfx:PL→List D | .ok ds _=>ds | .bad _ _ _ ds=>ds
def zj3:PL→Int | .ok _ j=>j | .bad _ _ j _=>j
def zue:PL→Int | .bad a _ _ _=>a | _=>0
def zx7:PL→Int | .bad _ e _ _=>e | _=>0
def zgc(k:Nat):Nat→List D→Int→List D→Option PL
 | 0,_,_,_=>none
 | r+1,l,i,ds=>zc (zg l i) λ p=>bif decide (p.1=0) then some (.ok ds i)
  else zc (zj6 k l i) λ q=>bif yp q then zh (vy ds) (zgc k r l (zn q) (ds++[trD (zb q)])) else some (.bad (yt q) (xj q) (zn q) ds)
def zxo:List V→St→Option (List D×Int×Int×List UInt8×Int×Nat×Nat)
 | [.ptr 0 0,.ptr 1 0],[(0,.val 2 (.d (.agg [.sl 3 l,.int .i64 i]))),(1,.val 5 (.agg [.d (.int .i64 z),.d (.str e),.sl 5 [] 2,.sl 1 [] 3,.d (.int .i64 y)])),(2,.tok a),(3,.tok b)]=>some (l,i,z,e,y,a,b)
 | _,_=>none
def zy3(k:Nat)(K:Out→St→Option R1):List D×Int×Int×List UInt8×Int×Nat×Nat→Option R1
 | (l,i,z,e,y,a,b)=>zc (xo k l i 1) λ p=>bif yp p then K (.ret (.tup [])) [(0,.val 2 (.d (.agg [.sl 3 l,.int .i64 (zn p)]))),(1,.val 5 (.d (trD (zb p)))),(2,.tok a),(3,.tok b)]
  else K (.pan (zch (yt p) (xj p))) [(0,.val 2 (.d (.agg [.sl 3 l,.int .i64 (zn p)]))),(1,.val 5 (.agg [.d (.int .i64 z),.d (.str e),.sl 5 [] 2,.sl 1 [] 3,.d (.int .i64 y)])),(2,.tok a),(3,.tok b)]
theorem zy2(k:Nat)(K:Out→St→Option R1)(q:List D×Int×Int×List UInt8×Int×Nat×Nat):zy3 k K q=zcw (zy3 k (λ o s=>some (o,s)) q) K:=by
 obtain ⟨l,i,z,e,y,a,b⟩:=q;show zc _ _=zcw (zc _ _) K;rw [yo];congr 1;funext p;rw [xz];rfl
def zxn:List V→St→Option (List D×Int)
 | [.ptr 0 0,.ptr 1 0],[(0,.val 2 (.d (.agg [.sl 3 l,.int .i64 i]))),(1,.val 1 (.sl 5 [] 2)),(2,.tok 0)]=>some (l,i)
 | _,_=>none
def zy1(k:Nat)(K:Out→St→Option R1):List D×Int→Option R1
 | (l,i)=>zc (zgc k k l i []) λ p=>bif zx5 p then K (.ret (.tup [])) [(0,.val 2 (.d (.agg [.sl 3 l,.int .i64 (zj3 p)]))),(1,.val 1 (.sl 5 (zfx p) 2)),(2,.tok (zfx p).length)]
  else K (.pan (zch (zue p) (zx7 p))) [(0,.val 2 (.d (.agg [.sl 3 l,.int .i64 (zj3 p)]))),(1,.val 1 (.sl 5 (zfx p) 2)),(2,.tok (zfx p).length)]
theorem zy0(k:Nat)(K:Out→St→Option R1)(q:List D×Int):zy1 k K q=zcw (zy1 k (λ o s=>some (o,s)) q) K:=by
 obtain ⟨l,i⟩:=q;show zc _ _=zcw (zc _ _) K;rw [yo];congr 1;funext p;rw [xz];rfl
noncomputable def T6(k:Nat):CK R1:=more 63 zub zsv zt6 (more 40 zxo (zy3 k) (zy2 k) (more 82 zxn (zy1 k) (zy0 k) (T5 k)))
def ED(cx:Cx)(call:CK (Out×St))(n f m g:Nat)(cap:List V):Ex→Fr→St→Option (Out×St):=zln cx (zpi cx call.S n) f m (zzq cx f) g cap
theorem g24(n k a b:Nat)(l:List D)(i z y:Int)(e:List UInt8):zu cx (T5 k) n 40 [.ptr 0 0,.ptr 1 0] [(0,.val 2 (.d (.agg [.sl 3 l,.int .i64 i]))),(1,.val 5 (.agg [.d (.int .i64 z),.d (.str e),.sl 5 [] 2,.sl 1 [] 3,.d (.int .i64 y)])),(2,.tok a),(3,.tok b)]=zc (xo k l i (1:Int)) λ p=>bif yp p then some (Out.ret (V.tup []),[(0,Ob.val 2 (V.d (D.agg [D.sl 3 l,D.int .i64 (zn p)]))),(1,Ob.val 5 (V.d (D.agg [D.int .i64 (zb p).k,D.str (zb p).2,D.sl 5 (zb p).3,D.sl 1 (zb p).4,D.int .i64 (zb p).pl]))),(2,Ob.tok a),(3,Ob.tok b)]) else some (Out.pan (V.d (D.iface 115 (D.agg [D.int .i64 (yt p),D.int .i64 (xj p)]))),[(0,Ob.val 2 (V.d (D.agg [D.sl 3 l,D.int .i64 (zn p)]))),(1,Ob.val 5 (V.agg [V.d (D.int .i64 z),V.d (D.str e),V.sl 5 [] 2,V.sl 1 [] 3,V.d (D.int .i64 y)])),(2,Ob.tok a),(3,Ob.tok b)]):=by kernel_rfl
theorem g26(n k:Nat)(l:List D)(i:Int):zu cx (T5 k) n 82 [.ptr 0 0,.ptr 1 0] [(0,.val 2 (.d (.agg [.sl 3 l,.int .i64 i]))),(1,.val 1 (.sl 5 [] 2)),(2,.tok 0)]=LP cx (T5 k) n 82 3 0 n [(0,V.ptr 0 0),(1,V.ptr 1 0)] [(0,Ob.val 2 (V.d (D.agg [D.sl 3 l,D.int .i64 i]))),(1,Ob.val 1 (V.sl 5 [] 2)),(2,Ob.tok 0)] (AK cx (T5 k) n 82 3 0 (EK cx 82 3)):=by kernel_rfl
theorem h26(n k r:Nat)(l ds:List D)(i:Int):LP cx (T5 k) n 82 3 0 (r+1) [(0,V.ptr 0 0),(1,V.ptr 1 0)] [(0,Ob.val 2 (V.d (D.agg [D.sl 3 l,D.int .i64 i]))),(1,Ob.val 1 (V.sl 5 ds 2)),(2,Ob.tok ds.length)] (AK cx (T5 k) n 82 3 0 (EK cx 82 3))=zc (zg l i) λ p=>bif !decide (p.fst=(0:Int)) then zc (zj6 k l i) λ p=>bif yp p then zh (decide (ds.length=ds.length)&&decide ((↑ds.length:Int)=(↑ds.length:Int))&&decide (ds.length+1≤4294967296)&&true&&true) (LP cx (T5 k) n 82 3 0 r [(0,V.ptr 0 0),(1,V.ptr 1 0)] [(0,Ob.val 2 (V.d (D.agg [D.sl 3 l,D.int .i64 (zn p)]))),(1,Ob.val 1 (V.sl 5 (ds++[D.agg [D.int .i64 (zb p).k,D.str (zb p).2,D.sl 5 (zb p).3,D.sl 1 (zb p).4,D.int .i64 (zb p).pl]]) 2)),(2,Ob.tok (ds.length+1))] (AK cx (T5 k) n 82 3 0 (EK cx 82 3))) else some (Out.pan (V.d (D.iface 115 (D.agg [D.int .i64 (yt p),D.int .i64 (xj p)]))),[(0,Ob.val 2 (V.d (D.agg [D.sl 3 l,D.int .i64 (zn p)]))),(1,Ob.val 1 (V.sl 5 ds 2)),(2,Ob.tok ds.length)]) else some (Out.ret (V.tup []),[(0,Ob.val 2 (V.d (D.agg [D.sl 3 l,D.int .i64 i]))),(1,Ob.val 1 (V.sl 5 ds 2)),(2,Ob.tok ds.length)]):=by kernel_rfl
theorem z33(n k a b:Nat)(s e:List UInt8)(z y:Int):zu cx (T6 k) n 39 [V.d (D.str s),V.func 40 [V.ptr 0 0]] [(0,Ob.val 5 (V.agg [V.d (D.int .i64 z),V.d (D.str e),V.sl 5 [] 1,V.sl 1 [] 2,V.d (D.int .i64 y)])),(1,Ob.tok a),(2,Ob.tok b)]=zh (decide (s.length≤big)) (bif decide (xg s=0) then zh (decide (0≤IntKind.i64.wrap ((↑(yk s).length:Int) - (1:Int)))&&decide (IntKind.i64.wrap ((↑(yk s).length:Int) - (1:Int))<(↑(yk s).length:Int))) (vd (yk s) (IntKind.i64.wrap ((↑(yk s).length:Int) - (1:Int))).toNat λ y_1=>OPS cx (T6 k) n 39 3 5 5 [(24,V.eptr y_1 0),(23,V.d (D.int .i64 (IntKind.i64.wrap ((↑(yk s).length:Int) - (1:Int))))),(22,V.d (D.int .i64 (↑(yk s).length:Int))),(21,V.sl 3 (yk s) 14),(20,V.sl 3 (yk s) 14),(19,V.func 64 [V.ptr 7 0,V.ptr 8 0]),(16,V.d (D.bool false)),(15,V.d (D.int .i64 (0:Int))),(6,V.sl 3 (yk s) 14),(14,V.d (D.int .i64 (0:Int))),(13,V.d (D.int .i64 (qb s))),(12,V.sl 3 (yk s) 14),(9,V.tup [V.sl 3 (yk s) 14,V.d (D.int .i64 (qb s)),V.d (D.int .i64 (0:Int))]),(11,V.tup [V.sl 3 (yk s) 14,V.d (D.int .i64 (qb s)),V.d (D.int .i64 (0:Int))]),(10,V.d (D.str s)),(5,V.ptr 8 0),(4,V.ptr 7 0),(0,V.d (D.str s)),(1,V.func 40 [V.ptr 0 0])] [(0,Ob.val 5 (V.agg [V.d (D.int .i64 z),V.d (D.str e),V.sl 5 [] 1,V.sl 1 [] 2,V.d (D.int .i64 y)])),(1,Ob.tok a),(2,Ob.tok b),(7,Ob.val 1 (V.d (D.int .i64 (qb s)))),(8,Ob.val 1 (V.d (D.int .i64 (0:Int)))),(14,Ob.tok (yk s).length)] (AR cx (T6 k) n 39 3 5 (ED cx (T6 k) n 39 3 64 [V.ptr 7 0,V.ptr 8 0]))) else bif !decide (xg s=(0:Int)) then some (Out.ret (V.tup [V.d (D.int .i64 (qb s)),V.d (D.int .i64 (xg s))]),[(0,Ob.val 5 (V.agg [V.d (D.int .i64 z),V.d (D.str e),V.sl 5 [] 1,V.sl 1 [] 2,V.d (D.int .i64 y)])),(1,Ob.tok a),(2,Ob.tok b)]) else none):=by kernel_rfl
theorem z3x(n k a b:Nat)(s e:List UInt8)(z y:Int)(L:List D)(q:Int)(t:List UInt8)(c:Int):OPS cx (T6 k) n 39 3 5 5 [(24,V.eptr (y4 q t c) 0),(23,V.d (D.int .i64 (IntKind.i64.wrap ((↑L.length:Int) - (1:Int))))),(22,V.d (D.int .i64 (↑L.length:Int))),(21,V.sl 3 L 14),(20,V.sl 3 L 14),(19,V.func 64 [V.ptr 7 0,V.ptr 8 0]),(16,V.d (D.bool false)),(15,V.d (D.int .i64 (0:Int))),(6,V.sl 3 L 14),(14,V.d (D.int .i64 (0:Int))),(13,V.d (D.int .i64 (qb s))),(12,V.sl 3 L 14),(9,V.tup [V.sl 3 L 14,V.d (D.int .i64 (qb s)),V.d (D.int .i64 (0:Int))]),(11,V.tup [V.sl 3 L 14,V.d (D.int .i64 (qb s)),V.d (D.int .i64 (0:Int))]),(10,V.d (D.str s)),(5,V.ptr 8 0),(4,V.ptr 7 0),(0,V.d (D.str s)),(1,V.func 40 [V.ptr 0 0])] [(0,Ob.val 5 (V.agg [V.d (D.int .i64 z),V.d (D.str e),V.sl 5 [] 1,V.sl 1 [] 2,V.d (D.int .i64 y)])),(1,Ob.tok a),(2,Ob.tok b),(7,Ob.val 1 (V.d (D.int .i64 (qb s)))),(8,Ob.val 1 (V.d (D.int .i64 (0:Int)))),(14,Ob.tok L.length)] (AR cx (T6 k) n 39 3 5 (ED cx (T6 k) n 39 3 64 [V.ptr 7 0,V.ptr 8 0]))=zh (decide (L.length=L.length)&&decide (L.length+[D.agg [D.int .i64 q,D.str t,D.int .i64 c],D.agg [D.int .i64 q,D.str t,D.int .i64 c]].length≤4294967296)) (zc (xo k (L++[D.agg [D.int .i64 q,D.str t,D.int .i64 c],D.agg [D.int .i64 q,D.str t,D.int .i64 c]]) (0:Int) 1) λ p=>bif yp p then zc (zg (L++[D.agg [D.int .i64 q,D.str t,D.int .i64 c],D.agg [D.int .i64 q,D.str t,D.int .i64 c]]) (zn p)) λ p_1=>bif !decide (p_1.fst=(0:Int)) then zc (zg (L++[D.agg [D.int .i64 q,D.str t,D.int .i64 c],D.agg [D.int .i64 q,D.str t,D.int .i64 c]]) (zn p)) λ p_2=>some (Out.ret (V.tup [V.d (D.int .i64 p_2.snd.snd),V.d (D.int .i64 (61:Int))]),[(0,Ob.val 5 (V.d (D.agg [D.int .i64 (zb p).k,D.str (zb p).2,D.sl 5 (zb p).3,D.sl 1 (zb p).4,D.int .i64 (zb p).pl]))),(1,Ob.tok a),(2,Ob.tok b)]) else some (Out.ret (V.tup [V.d (D.int .i64 (0:Int)),V.d (D.int .i64 (0:Int))]),[(0,Ob.val 5 (V.d (D.agg [D.int .i64 (zb p).k,D.str (zb p).2,D.sl 5 (zb p).3,D.sl 1 (zb p).4,D.int .i64 (zb p).pl]))),(1,Ob.tok a),(2,Ob.tok b)]) else some (Out.ret (V.tup [V.d (D.int .i64 (yt p)),V.d (D.int .i64 (xj p))]),[(0,Ob.val 5 (V.agg [V.d (D.int .i64 z),V.d (D.str e),V.sl 5 [] 1,V.sl 1 [] 2,V.d (D.int .i64 y)])),(1,Ob.tok a),(2,Ob.tok b)])):=by kernel_rfl
theorem zum(l:List D):decide (l.length+1≤4294967296)=vy l:=by
 unfold vy;exact decide_eq_decide.2 (by omega)
theorem u26(n k:Nat)(l:List D):∀ (r:Nat) (i:Int) (ds:List D),LP cx (T5 k) n 82 3 0 r [(0,V.ptr 0 0),(1,V.ptr 1 0)] [(0,Ob.val 2 (V.d (D.agg [D.sl 3 l,D.int .i64 i]))),(1,Ob.val 1 (V.sl 5 ds 2)),(2,Ob.tok ds.length)] (AK cx (T5 k) n 82 3 0 (EK cx 82 3)) =
  zc (zgc k r l i ds) λ p=>bif zx5 p then some (.ret (.tup []),[(0,.val 2 (.d (.agg [.sl 3 l,.int .i64 (zj3 p)]))),(1,.val 1 (.sl 5 (zfx p) 2)),(2,.tok (zfx p).length)])
  else some (.pan (zch (zue p) (zx7 p)),[(0,.val 2 (.d (.agg [.sl 3 l,.int .i64 (zj3 p)]))),(1,.val 1 (.sl 5 (zfx p) 2)),(2,.tok (zfx p).length)])
 | 0,_,_=>rfl
 | r+1,i,ds=>by
  rw [h26];simp only [zgc,decide_true,Bool.true_and,Bool.and_true,zum,zba,zp,zx,zi,zj];cases hp:zg l i with
  | none=>rfl
  | some p=>
   simp only [zj];cases decide (p.1=0) with
   | true=>rfl
   | false=>
    simp only [p6];refine yw λ q hq=>?_;cases yp q with
    | false=>rfl
    | true=>
     simp only [p5];refine y7 ?_;have e:=u26 n k l r (zn q) (ds++[trD (zb q)]);rw [ph] at e;exact e
def za7(L:List D):List D:=match L.getLast? with | some e=>L++[e,e] | none=>L
theorem zff(I:List D)(e:D):za7 (I++[e])=I++[e]++[e,e]:=by unfold za7; rw [List.getLast?_concat]
theorem z0t(k:Nat)(a:List V)(σ:St)(q)(r:R1)(hd:zxo a σ=some q)(h:zy3 k (λ o s=>some (o,s)) q=some r):zl cx 40 a σ=some r:=by
 unfold zxo at hd;split at hd
 ·cases hd;refine zw (zmn k) (N:=0) ?_;rw [g24];exact h
 ·cases hd
theorem z0s(k:Nat)(a:List V)(σ:St)(q)(r:R1)(hd:zxn a σ=some q)(h:zy1 k (λ o s=>some (o,s)) q=some r):zl cx 82 a σ=some r:=by
 unfold zxn at hd;split at hd
 ·cases hd;refine zw (zmn k) (N:=k) ?_;rw [g26];exact (u26 k k _ k _ []).trans h
 ·cases hd
theorem zx4(k:Nat):knows cx (T6 k).S (zl cx):=by
 unfold T6;exact zcp (zcp (zcp (zmn k) (z0s k)) (z0t k)) zw0
def zs8:List V→St→Option (List UInt8×Int×List UInt8×Int×Nat×Nat)
 | [.d (.str s),.func 40 [.ptr 0 0]],[(0,.val 5 (.agg [.d (.int .i64 z),.d (.str e),.sl 5 [] 1,.sl 1 [] 2,.d (.int .i64 y)])),(1,.tok a),(2,.tok b)]=>some (s,z,e,y,a,b)
 | _,_=>none
def zn6(k:Nat)(K:Out→St→Option R1):List UInt8×Int×List UInt8×Int×Nat×Nat→Option R1
 | (s,z,e,y,a,b)=>zh (decide (s.length≤big)) <| bif decide (xg s=0) then zc (xo k (za7 (yk s)) 0 1) λ p=>
   bif yp p then zc (zg (za7 (yk s)) (zn p)) λ q=>
    bif decide (q.1=0) then K (.ret (.tup [.d (.int .i64 0),.d (.int .i64 0)])) [(0,.val 5 (.d (trD (zb p)))),(1,.tok a),(2,.tok b)]
    else K (.ret (.tup [.d (.int .i64 q.2.2),.d (.int .i64 61)])) [(0,.val 5 (.d (trD (zb p)))),(1,.tok a),(2,.tok b)]
   else K (.ret (.tup [.d (.int .i64 (yt p)),.d (.int .i64 (xj p))])) [(0,.val 5 (.agg [.d (.int .i64 z),.d (.str e),.sl 5 [] 1,.sl 1 [] 2,.d (.int .i64 y)])),(1,.tok a),(2,.tok b)]
  else K (.ret (.tup [.d (.int .i64 (qb s)),.d (.int .i64 (xg s))])) [(0,.val 5 (.agg [.d (.int .i64 z),.d (.str e),.sl 5 [] 1,.sl 1 [] 2,.d (.int .i64 y)])),(1,.tok a),(2,.tok b)]
theorem zxb(k:Nat)(K:Out→St→Option R1)(q:List UInt8×Int×List UInt8×Int×Nat×Nat):zn6 k K q=zcw (zn6 k (λ o s=>some (o,s)) q) K:=by
 obtain ⟨s,z,e,y,a,b⟩:=q;simp only [zn6,zh,xz,yo];rfl
theorem zr8{s:List UInt8}(h:decide (xg s=0)=true):(yk s).length≤65537:=by
 have h1:=zkg s;rcases zdj s with ⟨h2,_⟩ | ⟨h2,_⟩
 ·unfold yk; omega
 ·exact absurd (pd h) h2
theorem zny{I:List D}{e:D}(h:(I++[e]).length≤65537):IntKind.i64.wrap (((I++[e]).length:Int) - 1)=(I.length:Int):=by
 have hl:(I++[e]).length=I.length+1:=by simp
 rw [IntWalk.i64_in _ (by omega)]
 omega
theorem last_at{I:List D}{e:D}(h:(I++[e]).length≤65537):(I++[e])[(IntKind.i64.wrap (((I++[e]).length:Int) - 1)).toNat]?=some e:=by
 rw [zny h,px,List.getElem?_concat_length]
theorem zyx{I:List D}{e:D}(h:(I++[e]).length≤65537):(decide (0≤IntKind.i64.wrap (((I++[e]).length:Int) - 1))&&decide (IntKind.i64.wrap (((I++[e]).length:Int) - 1)<((I++[e]).length:Int)))=true:=by
 rw [zny h];have hl:(I++[e]).length=I.length+1:=by simp
 simp only [pq,decide_eq_true_eq];omega
theorem zy7{L:List D}{x y:D}(h:L.length≤65537):(decide (L.length=L.length)&&decide (L.length+[x,y].length≤4294967296))=true:=by
 rw [pa rfl,pa (p:=L.length+[x,y].length≤4294967296) (by show L.length+2≤_; omega)]
 rfl
theorem z0u(k:Nat)(a:List V)(σ:St)(q)(r:R1)(hd:zs8 a σ=some q)(h:zn6 k (λ o s=>some (o,s)) q=some r):zl cx 39 a σ=some r:=by
 unfold zs8 at hd;split at hd
 ·rename_i s z e y a b;cases hd;refine zw (zx4 k) (N:=0) ?_;rw [z33,←h];simp only [zn6];refine y7 ?_;cases hs:decide (xg s=0)
  ·rfl
  ·obtain ⟨I,hI⟩:=scan_ok hs;have hl:=zr8 hs;rw [hI] at hl;simp only [p5];rw [hI,zyx hl,zh,p5,zj0 (last_at hl),z3x,zy7 hl,zh,p5,zff];refine yw λ p hp=>?_;cases yp p
   ·rfl
   ·simp only [p5];refine yw λ t ht=>?_;have hx:zg (I++[y4 0 [] _]++[y4 0 [] _,y4 0 [] _]) (zn p)=some t:=ht;cases hq:decide (t.1=0)
    ·rw [zba];simp only [hq,p6];exact (congrArg (λ o=>zc o _) hx).trans rfl
    ·rw [zba];simp only [hq,p5];rfl
 ·cases hd
def T8a(k:Nat):CK R1:=more 39 zs8 (zn6 k) (zxb k) (CK.plain x7)
theorem zvx(k:Nat):knows cx (T8a k).S (zl cx):=zcp yy (z0u k)
theorem g10(n k:Nat)(s:List UInt8):zu cx (T8a k) n 12 [.d (.str s)] []=zh (decide (s.length≤big)) (bif decide (xg s=0) then zc (xo k (za7 (yk s)) 0 1) λ p=>bif yp p then zc (zg (za7 (yk s)) (zn p)) λ q=>bif decide (q.fst=0) then some (Out.ret (V.tup [V.d (D.agg [D.int .i64 (zb p).k,D.str (zb p).2,D.sl 5 (zb p).3,D.sl 1 (zb p).4,D.int .i64 (zb p).pl]),V.d (D.int .i64 (0:Int)),V.d (D.int .i64 (0:Int))]),[]) else some (Out.ret (V.tup [V.d (D.agg [D.int .i64 (0:Int),D.str [],D.sl 5 [],D.sl 1 [],D.int .i64 (0:Int)]),V.d (D.int .i64 q.snd.snd),V.d (D.int .i64 (61:Int))]),[]) else bif !decide (xj p=(0:Int)) then some (Out.ret (V.tup [V.d (D.agg [D.int .i64 (0:Int),D.str [],D.sl 5 [],D.sl 1 [],D.int .i64 (0:Int)]),V.d (D.int .i64 (yt p)),V.d (D.int .i64 (xj p))]),[]) else some (Out.ret (V.tup [V.d (D.agg [D.int .i64 (0:Int),D.str [],D.sl 5 [],D.sl 1 [],D.int .i64 (0:Int)]),V.d (D.int .i64 (0:Int)),V.d (D.int .i64 (0:Int))]),[]) else bif !decide (xg s=(0:Int)) then some (Out.ret (V.tup [V.d (D.agg [D.int .i64 (0:Int),D.str [],D.sl 5 [],D.sl 1 [],D.int .i64 (0:Int)]),V.d (D.int .i64 (qb s)),V.d (D.int .i64 (xg s))]),[]) else some (Out.ret (V.tup [V.d (D.agg [D.int .i64 (0:Int),D.str [],D.sl 5 [],D.sl 1 [],D.int .i64 (0:Int)]),V.d (D.int .i64 (0:Int)),V.d (D.int .i64 (0:Int))]),[])):=by kernel_rfl
inductive TR where
 | ok (t:Tr)
 | bad (a e:Int)
def TR.out:TR→Out
 | .ok t=>.ret (.tup [.d (trD t),.d (.int .i64 0),.d (.int .i64 0)])
 | .bad a e=>.ret (.tup [.d (trD ⟨0,[],[],[],0⟩),.d (.int .i64 a),.d (.int .i64 e)])
def TR.fine:TR→Prop
 | .ok _=>True
 | .bad _ e=>e ≠ 0
def xp(k : Nat)(s : List UInt8) : Option TR := bif decide (xg s = 0) then zc (xo k (za7 (yk s)) 0 1) λ p =>
      bif yp p then zc (zg (za7 (yk s)) (zn p)) λ q => bif decide (q.1 = 0) then some (.ok (zb p)) else some (.bad q.2.2 61)
      else some (.bad (yt p) (xj p))
    else some (.bad (qb s) (xg s))
inductive TL where
 | ok (l:List D)
 | bad (a e:Int)
theorem zw3(k:Nat)(s:List UInt8)(hs:s.length≤big)(r:TR)(h:xp k s=some r)(hr:r.fine):zl cx 12 [.d (.str s)] []=some (r.out,[]):=by
 refine zw (zvx k) (N:=0) ?_;rw [g10,pa hs,zh,p5];unfold xp at h;cases hc:decide (xg s=0) <;> rw [hc] at h
 ·rw [p6] at h;cases h;rfl
 ·rw [p5] at h;obtain ⟨p,hp,h⟩:=za h;simp only [p5,hp,zj];cases hq:yp p <;> rw [hq] at h
  ·rw [p6] at h;cases h;rw [p6,pb (p:=xj p=0) hr];rfl
  ·rw [p5] at h;obtain ⟨q,hq,h⟩:=za h;simp only [p5,hq,zj];cases hz:decide (q.1=0) <;> rw [hz] at h
   ·cases h; rfl
   ·cases h; rfl
structure Toks (l:List D) (m:Nat) (N:Int):Prop where
 at_:∀ x:Int,0≤x→x≤(m:Int)+2→∃ p,zg l x=some p
 kind:∀ (x:Int) p,zg l x=some p→x<m→p.1=1∨p.1=2
 fin:∀ (x:Int) p,zg l x=some p→(m:Int)≤x→p.1=0∧p.2.1=[]
 small:m<100000
 mono:∀ (x y:Int) p q,zg l x=some p→zg l y=some q→x≤y→p.2.2≤q.2.2
 low:∀ (x:Int) p,zg l x=some p→0≤p.2.2∧p.2.2≤N
def Wn(l:List D):Nat→Int→Tr→Prop
 | 0,_,_=>False
 | n+1,x,t=>∃ p,zg l x=some p∧t.pl=p.2.2∧(t.k=1→t.nm=p.2.1)∧1≤t.k∧t.k≤17∧(∀ n∈t.nms,∃ s,n=D.str s) ∧
   (∀ d∈t.kids,∃ u y,d=trD u∧x≤y∧Wn l n y u)∧t.kids.length<4294967296∧t.nms.length<4294967296
def W(l:List D)(x:Int)(t:Tr):Prop:=∃ n,Wn l n x t
theorem zzz{l:List D}:∀ {n:Nat} {x:Int} {t:Tr},Wn l n x t→Wn l (n+1) x t
 | 0,_,_,h=>h.elim
 | n+1,x,t,⟨p,h1,h2,h3,h4,h5,h6,h7,h8⟩=>⟨p,h1,h2,h3,h4,h5,h6,λ d hd=>by
  obtain ⟨u,y,e,hy,hW⟩:=h7 d hd;exact ⟨u,y,e,hy,zzz hW⟩,h8⟩
theorem zz0{l:List D}{n m:Nat}{x:Int}{t:Tr}(h:Wn l n x t)(hm:n≤m):Wn l m x t:=by
 induction hm with
 | refl=>exact h
 | step _ ih=>exact zzz ih
theorem zx2{l:List D}{x:Int}:∀ {ks:List D},(∀ d∈ks,∃ u y,d=trD u∧x≤y∧W l y u)→∃ n,∀ d∈ks,∃ u y,d=trD u∧x≤y∧Wn l n y u
 | [],_=>⟨0,λ d hd=>by cases hd⟩
 | k::ks,h=>by
  obtain ⟨n,hn⟩:=zx2 λ d hd=>h d (p0 _ hd);obtain ⟨u,y,e,hy,n',hW⟩:=h k py;refine ⟨max n n',λ d hd=>?_⟩;rcases List.mem_cons.1 hd with rfl | hd
  ·exact ⟨u,y,e,hy,zz0 hW (Nat.le_max_right _ _)⟩
  ·obtain ⟨u,y,e,hy,hW⟩:=hn d hd;exact ⟨u,y,e,hy,zz0 hW (Nat.le_max_left _ _)⟩
theorem W.mk{l:List D}{x:Int}{t:Tr}{p:Tk3}(h1:zg l x=some p)(h2:t.pl=p.2.2)(h3:t.k=1→t.nm=p.2.1)(h4:1≤t.k)(h5:t.k≤17)(h6:∀ n∈t.nms,∃ s,n=D.str s)
  (h7:∀ d∈t.kids,∃ u y,d=trD u∧x≤y∧W l y u) (h8:t.kids.length<4294967296) (h9:t.nms.length<4294967296):W l x t:=by
 obtain ⟨n,hn⟩:=zx2 h7;exact ⟨n+1,p,h1,h2,h3,h4,h5,h6,hn,h8,h9⟩
theorem wm{l:List D}{i:Int}{p:Tk3}(h:zg l i=some p):up i=i+1:=zv7 h
theorem zla{p:Tk3}{s:List UInt8}(h:zq p s=true):p.1=2∧p.2.1=s:=by
 unfold zq at h;simp only [pq,decide_eq_true_eq] at h;exact h
theorem zud{p:Tk3}(h:(!decide (za8 p=0))=true):p.1=2∧(za8 p=4∨za8 p=5):=by
 unfold za8 at h ⊢;cases h1:zq p [45,62]
 ·cases h2:zq p [42]
  ·rw [h1,h2] at h; exact absurd h (by decide)
  ·exact ⟨(zla h2).1,.inr rfl⟩
 ·exact ⟨(zla h1).1,.inl rfl⟩
section
variable {l:List D} {m:Nat} {N:Int}
theorem Toks.lt(h:Toks l m N){x:Int}{p:Tk3}(hp:zg l x=some p)(hk:p.1=1∨p.1=2):x<m:=by
 by_cases hx:x<m
 ·exact hx
 ·have:=(h.fin x p hp (by omega)).1; omega
theorem Toks.sign(h:Toks l m N){x:Int}{p:Tk3}{s:List UInt8}(hp:zg l x=some p)(hs:zq p s=true):x<m:=h.lt hp (.inr (zla hs).1)
theorem Toks.nm(h:Toks l m N){x:Int}{p:Tk3}(hp:zg l x=some p)(hs:decide (p.1=1)=true):x<m:=h.lt hp (.inl (pd hs))
def z3g(l:List D)(m:Nat)(i:Int):PR→Prop
 | .ok t j=>∃ x,i≤x∧x<j∧j≤m∧W l x t
 | .bad a e _=>(∃ x p,zg l x=some p∧a=p.2.2)∧(e=61∨e=62)
def U(l:List D)(m:Nat)(i:Int)(o:Option PR):Prop:=∃ out,o=some out∧z3g l m i out
def z3h(l:List D)(m:Nat)(i:Int):PN→Prop
 | .ok ns j=>i<j∧j≤m∧(∀ n∈ns,∃ s,n=D.str s)∧(ns.length:Int)≤m
 | .bad a e _=>(∃ x p,zg l x=some p∧a=p.2.2)∧(e=61∨e=62)
def UN(l:List D)(m:Nat)(i:Int)(o:Option PN):Prop:=∃ out,o=some out∧z3h l m i out
theorem zg9{i x j e:Int}{p:Tk3}(hp:zg l x=some p)(he:e=61∨e=62):U l m i (some (.bad p.2.2 e j)):=⟨_,rfl,⟨x,p,hp,rfl⟩,he⟩
theorem zez{i x j:Int}{t:Tr}(hi:i≤x)(hx:x<j)(hj:j≤m)(hW:W l x t):U l m i (some (.ok t j)):=⟨_,rfl,x,hi,hx,hj,hW⟩
theorem zau{i:Int}{c:Bool}{a b:Option PR}(ha:c=true→U l m i a)(hb:c=false→U l m i b):U l m i (bif c then a else b):=by
 cases c
 ·exact hb rfl
 ·exact ha rfl
theorem vg{i i':Int}{c:Option PR}{K:Tr→Int→Option PR}(hc:U l m i' c)(hK:∀ t j x,i'≤x→x<j→j≤m→W l x t→U l m i (K t j)):U l m i (ym c K):=by
 obtain ⟨out,rfl,hg⟩:=hc;cases out with
 | ok t j=>obtain ⟨x,h1,h2,h3,h4⟩:=hg; exact hK t j x h1 h2 h3 h4
 | bad a e j=>exact ⟨_,rfl,hg⟩
theorem ztp{i i':Int}{c:Option PN}{K:List D→Int→Option PR}(hc:UN l m i' c)(hK:∀ ns j,i'<j→j≤m→(∀ n∈ns,∃ s,n=D.str s)→(ns.length:Int)≤m→U l m i (K ns j)):U l m i (zh9 c K):=by
 obtain ⟨out,rfl,hg⟩:=hc;cases out with
 | ok t j=>obtain ⟨h1,h2,h3,h4⟩:=hg; exact hK t j h1 h2 h3 h4
 | bad a e j=>exact ⟨_,rfl,hg⟩
theorem zbp(h:Toks l m N){i x:Int}{F:Tk3→Option PR}(h0:0≤x)(h1:x≤m)(hF:∀ p,zg l x=some p→U l m i (F p)):U l m i (zc (zg l x) F):=by
 obtain ⟨p,hp⟩:=h.at_ x h0 (by omega)
 rw [hp];exact hF p hp
theorem zdw(h:Toks l m N){i x:Int}{s:List UInt8}{K:Int→Option PR}(h0:0≤x)(h1:x≤m)(hK:x+1≤m→U l m i (K (x+1))):U l m i (wb l x s K):=by
 refine zbp h h0 h1 λ p hp=>zau (λ hs=>?_) λ _=>zg9 hp (.inl rfl);have:=h.sign hp hs;rw [wm hp];exact hK (by omega)
theorem zz3(h:Toks l m N){i x:Int}{K:List UInt8→Int→Option PR}(h0:0≤x)(h1:x≤m)(hK:∀ p,zg l x=some p→p.1=1→x+1≤m→U l m i (K p.2.1 (x+1))):U l m i (zh7 l x K):=by
 refine zbp h h0 h1 λ p hp=>zau (λ hs=>?_) λ _=>zg9 hp (.inl rfl);have:=h.nm hp hs;rw [wm hp];exact hK p hp (pd hs) (by omega)
theorem zr0{i:Int}{c:Bool}{a:Option PR}(hc:c=true)(ha:U l m i a):U l m i (zh c a):=by rw [hc]; exact ha
theorem zhd{k:List D}{n:Int}(h:(k.length:Int)≤n)(hn:n≤100000):vy k=true:=pa (by omega)
structure UU (l:List D) (m:Nat) (k:Nat):Prop where
 names:∀ i:Int,0≤i→i≤m→8 * (m - i)+3≤k→UN l m i ((zz k).names l i)
 face:∀ i:Int,0≤i→i≤m→8 * (m - i)+3≤k→U l m i ((zz k).face l i)
 term:∀ i v:Int,0≤i→i≤m→8 * (m - i)+6≤k→U l m i ((zz k).term l i v)
 after:∀ (i v:Int) t x i0,0≤i0→i0≤x→x<i→i≤m→W l x t→8 * (m - i)+5≤k→U l m i0 ((zz k).after l i v t)
 atom:∀ i v:Int,0≤i→i≤m→8 * (m - i)+4≤k→U l m i ((zz k).atom l i v)
 box:∀ (i v:Int) p,0≤i→i≤m→zg l i=some p→zq p [91]=true→8 * (m - i)+3≤k→U l m i ((zz k).box l i v)
 join:∀ i v:Int,0≤i→i≤m→8 * (m - i)+5≤k→U l m i ((zz k).join l i v)
 meet:∀ i v:Int,0≤i→i≤m→8 * (m - i)+4≤k→U l m i ((zz k).meet l i v)
 dim:∀ i v:Int,0≤i→i≤m→8 * (m - i)+3≤k→U l m i ((zz k).dim l i v)
theorem zdm{x:Int}:∀ d∈([]:List D),∃ u y,d=trD u∧x≤y∧W l y u:=λ d hd=>by cases hd
theorem zcr{x y:Int}{t:Tr}(h:W l y t)(hx:x≤y):∀ d∈[trD t],∃ u y,d=trD u∧x≤y∧W l y u:=λ d hd=>by
 rcases List.mem_singleton.1 hd with rfl;exact ⟨t,y,rfl,hx,h⟩
theorem qu{x y z:Int}{t u:Tr}(h:W l y t)(hx:x≤y)(h':W l z u)(hx':x≤z):∀ d∈[trD t,trD u],∃ u y,d=trD u∧x≤y∧W l y u:=λ d hd=>by
 simp only [List.mem_cons,List.not_mem_nil,or_false] at hd;rcases hd with rfl | rfl
 ·exact ⟨t,y,rfl,hx,h⟩
 ·exact ⟨u,z,rfl,hx',h'⟩
theorem wi:∀ n∈([]:List D),∃ s,n=D.str s:=λ d hd=>by cases hd
theorem zj2{s:List UInt8}:∀ n∈[D.str s],∃ s,n=D.str s:=λ d hd=>⟨s,List.mem_singleton.1 hd⟩
theorem zpy{x k:Int}{p:Tk3}(hp:zg l x=some p)(h1:1≤k)(h2:k≤17):W l x ⟨k,p.2.1,[],[],p.2.2⟩:=
 .mk hp rfl (λ _=>rfl) h1 h2 wi zdm (show 0<4294967296 by decide) (show 0<4294967296 by decide)
theorem qa{x k:Int}{p:Tk3}{s:List UInt8}{kids nms:List D}(hp:zg l x=some p)(h1:2≤k)(h2:k≤17)(hn:∀ n∈nms,∃ s,n=D.str s)(hk:∀ d∈kids,∃ u y,d=trD u∧x≤y∧W l y u)
  (hl:(kids.length:Int)≤200000) (hl':(nms.length:Int)≤200000):W l x ⟨k,s,kids,nms,p.2.2⟩:=
 .mk hp rfl (λ h=>by have:k=1:=h; omega) (by show 1≤k; omega) h2 hn hk (by show kids.length<_; omega) (by show nms.length<_; omega)
theorem z1k{x:Int}{t:Tr}(h:W l x t):∃ p,zg l x=some p∧t.pl=p.2.2:=by cases h with | intro n h=>cases n with
 | zero=>exact h.elim
 | succ n=>obtain ⟨p,hp,he,_⟩:=h; exact ⟨p,hp,he⟩
theorem zkx(h:Toks l m N){i0:Int}:∀ (r:Nat) (i:Int) (ns:List D),0≤i→i≤m→i0<i→(∀ n∈ns,∃ s,n=D.str s)→(ns.length:Int)≤i→m - i<r→UN l m i0 (zcg r l i ns)
 | 0,i,ns,h0,h1,_,_,_,hr=>by omega
 | r+1,i,ns,h0,h1,hi,hn,hl,hr=>by
  obtain ⟨p,hp⟩:=h.at_ i h0 (by omega)
  rw [zcg,hp,zj];cases hk:decide (p.1=1)
  ·exact ⟨_,rfl,hi,h1,hn,by omega⟩
  ·have:=h.nm hp hk;have hs:=h.small;rw [p5,wm hp,zhd (n:=(m:Int)) (by omega) (by omega),zh,p5]
   exact zkx h r (i+1) _ (by omega) (by omega) (by omega) (λ n hn'=>by
    rcases List.mem_append.1 hn' with h' | h'
    ·exact hn n h'
    ·exact zj2 n h') (by simp; omega) (by omega)
theorem zob(h:Toks l m N){i0 x:Int}{q:Tk3}(hq:zg l x=some q)(hx0:i0≤x):∀ (r:Nat) (i:Int) (kids:List D),0≤i→x≤i→i≤m→(∀ d∈kids,∃ u y,d=trD u∧x≤y∧W l y u)→(kids.length:Int)≤i→m - i<r→U l m i0 (zdv r l i kids q.2.2)
 | 0,i,_,h0,_,h1,_,_,hr=>by omega
 | r+1,i,kids,h0,hxi,h1,hk,hl,hr=>by
  have hs:=h.small;rw [zdv];refine zbp h h0 h1 λ p hp=>zau (λ hb=>?_) λ _=>zg9 hp (.inl rfl);have:=h.sign hp hb;rw [wm hp];refine zz3 h (by omega) (by omega) λ s hs' hs1 hs2=>?_
  refine zdw h (by omega) (by omega) λ h3=>?_
  refine zbp h (by omega) (by omega) λ w hw=>zau (λ hb'=>?_) λ _=>zg9 hw (.inl rfl)
  have hw1:i+1+1+1<m:=by
   rcases Bool.or_eq_true _ _ |>.mp hb' with h | h
   ·exact Toks.sign ‹Toks l m N› hw h
   ·exact Toks.sign ‹Toks l m N› hw h
  rw [wm hw];refine zdw h (by omega) (by omega) λ h4=>?_
  refine zr0 (zhd (n:=(m:Int)) (by omega) (by omega)) ?_
  have hW:W l i ⟨13,s.2.1,[],[.str w.2.1],p.2.2⟩:=qa hp (by decide) (by decide) zj2 zdm (by decide) (by simp)
  have hks:∀ d∈kids++[trD ⟨13,s.2.1,[],[.str w.2.1],p.2.2⟩],∃ u y,d=trD u∧x≤y∧W l y u:=λ d hd=>by
   rcases List.mem_append.1 hd with h' | h'
   ·exact hk d h'
   ·exact zcr hW hxi d h'
  refine zbp h (by omega) (by omega) λ y hy=>zau (λ _=>?_) λ _=>?_
  ·exact zob h hq hx0 r _ _ (by omega) (by omega) (by omega) hks (by simp; omega) (by omega)
  ·exact zez hx0 (by omega) (by omega) (qa hq (by decide) (by decide) wi hks (by simp; omega) (by decide))
theorem zl7(h : Toks l m N){k : Nat}(hU : UU l m k){i0 x v : Int}{q : Tk3}(hq : zg l x = some q)(hx0 : i0 ≤ x)(h00 : 0 ≤ i0) : ∀ (r : Nat) (i : Int) (kids : List D), x < i → i ≤ m → (∀ d ∈ kids, ∃ u y, d = trD u ∧ x ≤ y ∧ W l y u) → (kids.length : Int) ≤ i → m - i < r → 8 * (m - i) + 6 ≤ k → U l m i0 (zb7 (zz k) r l i v kids q.2.2)
  | 0, i, _, _, h1, _, _, hr, _ => by omega
  | r + 1, i, kids, hxi, h1, hk, hl, hr, hf => by
    have hs := h.small;rw [zb7];refine zbp h (by omega) h1 λ p hp => zau (λ hb => ?_) λ _ => ?_
    · have := h.sign hp hb;rw [wm hp];exact zez hx0 (by omega) (by omega) (qa hq (by decide) (by decide) wi hk (by omega) (by decide))
    · have step : ∀ j : Int, i ≤ j → j ≤ m → U l m i0 (zc (zg l j) λ q_1 => ym ((zz k).face l j) λ f j => zc (zg l j) λ u =>
          bif zq u [45, 62] then ym ((zz k).term l (up j) (up v)) λ t j => zh (vy kids) (zb7 (zz k) r l j v (kids ++ [trD ⟨11, [], [trD f, trD t], [], q_1.2.2⟩]) q.2.2)
          else zh (vy kids) (zb7 (zz k) r l j v (kids ++ [trD ⟨11, [], [trD f], [], q_1.2.2⟩]) q.2.2)) := by
        intro j hj hjm;refine zbp h (by omega) hjm λ w hw => ?_
        refine vg (hU.face j (by omega) hjm (by omega)) λ f j2 y hy hy2 hj2 hWf => ?_
        refine zbp h (by omega) hj2 λ z hz => zau (λ hb' => ?_) λ _ => ?_
        · have := h.sign hz hb';rw [wm hz];refine vg (hU.term (j2 + 1) _ (by omega) (by omega) (by omega)) λ t j3 y' hy' hy2' hj3 hWt => ?_
          refine zr0 (zhd (n := (m : Int)) (by omega) (by omega)) ?_
          have hW : W l j ⟨11, [], [trD f, trD t], [], w.2.2⟩ := qa hw (by decide) (by decide) wi (qu hWf (by omega) hWt (by omega)) (by simp) (by decide)
          refine zl7 h hU hq hx0 h00 r j3 _ (by omega) hj3 (λ d hd => ?_) (by simp; omega) (by omega) (by omega)
          rcases List.mem_append.1 hd with h' | h'
          · exact hk d h'
          · exact zcr hW (by omega) d h'
        · refine zr0 (zhd (n := (m : Int)) (by omega) (by omega)) ?_
          have hW : W l j ⟨11, [], [trD f], [], w.2.2⟩ := qa hw (by decide) (by decide) wi (zcr hWf (by omega)) (by simp) (by decide)
          refine zl7 h hU hq hx0 h00 r j2 _ (by omega) hj2 (λ d hd => ?_) (by simp; omega) (by omega) (by omega)
          rcases List.mem_append.1 hd with h' | h'
          · exact hk d h'
          · exact zcr hW (by omega) d h'
      unfold zmq;refine zau (λ _ => zdw h (by omega) h1 λ h2 => step _ (by omega) h2) λ _ => step i (by omega) h1
theorem zg8(h:Toks l m N){k:Nat}(hU:UU l m k){i0 v:Int}(h00:0≤i0):∀ (r:Nat) (i x:Int) (t:Tr),i0≤x→x<i→i≤m→W l x t→m - i<r→8 * (m - i)+4≤k→U l m i0 (zat (zz k) r l i v t)
 | 0,i,_,_,_,_,h1,_,hr,_=>by omega
 | r+1,i,x,t,hx0,hxi,h1,hW,hr,hf=>by
  rw [zat];obtain ⟨q,hq,hqe⟩:=z1k hW;refine zbp h (by omega) h1 λ p hp=>zau (λ hb=>?_) λ _=>zau (λ _=>?_) λ _=>zau (λ hb=>?_) λ _=>zez hx0 hxi h1 hW
  ·have:=h.sign hp hb;rw [wm hp];refine vg (hU.dim (i+1) _ (by omega) (by omega) (by omega)) λ u j y hy hyj hj hWu=>?_
   refine zg8 h hU h00 r j x _ hx0 (by omega) hj ?_ (by omega) (by omega)
   rw [hqe];exact qa hq (by decide) (by decide) wi (qu hW (by omega) hWu (by omega)) (by simp) (by decide)
  ·refine vg (hU.atom i _ (by omega) (by omega) (by omega)) λ u j y hy hyj hj hWu=>?_
   refine zg8 h hU h00 r j x _ hx0 (by omega) hj ?_ (by omega) (by omega)
   rw [hqe];exact qa hq (by decide) (by decide) wi (qu hW (by omega) hWu (by omega)) (by simp) (by decide)
  ·have ha:=zud hb;have:=h.lt hp (.inr ha.1);rw [wm hp];refine vg (hU.term (i+1) _ (by omega) (by omega) (by omega)) λ u j y hy hyj hj hWu=>?_
   refine zez hx0 (by omega) hj ?_
   rw [hqe];exact qa hq (by omega) (by omega) wi (qu hW (by omega) hWu (by omega)) (by simp) (by decide)
theorem znz(h:Toks l m N){k:Nat}(hU:UU l m k){i0 v:Int}(h00:0≤i0):∀ (r:Nat) (i x:Int) (t:Tr),i0≤x→x<i→i≤m→W l x t→m - i<r→8 * (m - i)+1≤k→U l m i0 (zdu (zz k) r l i v t)
 | 0,i,_,_,_,_,h1,_,hr,_=>by omega
 | r+1,i,x,t,hx0,hxi,h1,hW,hr,hf=>by
  rw [zdu];obtain ⟨q,hq,hqe⟩:=z1k hW;refine zbp h (by omega) h1 λ p hp=>zau (λ hb=>?_) λ _=>zez hx0 hxi h1 hW
  have:=h.sign hp hb;rw [wm hp];refine vg (hU.meet (i+1) _ (by omega) (by omega) (by omega)) λ u j y hy hyj hj hWu=>?_
  refine znz h hU h00 r j x _ hx0 (by omega) hj ?_ (by omega) (by omega)
  rw [hqe];exact qa hq (by decide) (by decide) wi (qu hW (by omega) hWu (by omega)) (by simp) (by decide)
theorem zns(h:Toks l m N){k:Nat}(hU:UU l m k){i0 v:Int}(h00:0≤i0):∀ (r:Nat) (i x:Int) (t:Tr),i0≤x→x<i→i≤m→W l x t→m - i<r→8 * (m - i)+1≤k→U l m i0 (zdt (zz k) r l i v t)
 | 0,i,_,_,_,_,h1,_,hr,_=>by omega
 | r+1,i,x,t,hx0,hxi,h1,hW,hr,hf=>by
  rw [zdt];obtain ⟨q,hq,hqe⟩:=z1k hW;refine zbp h (by omega) h1 λ p hp=>zau (λ hb=>?_) λ _=>zez hx0 hxi h1 hW
  have:=h.sign hp hb;rw [wm hp];refine vg (hU.dim (i+1) _ (by omega) (by omega) (by omega)) λ u j y hy hyj hj hWu=>?_
  refine zns h hU h00 r j x _ hx0 (by omega) hj ?_ (by omega) (by omega)
  rw [hqe];exact qa hq (by decide) (by decide) wi (qu hW (by omega) hWu (by omega)) (by simp) (by decide)
theorem zxx(h:Toks l m N){i:Int}{p:Tk3}(hp:zg l i=some p):∃ b,zfy l i=some b∧(b=true→zq p [40]=true∧i+2<m∧∃ q,zg l (i+1)=some q∧q.1=1):=by
 have h0:=qs hp;unfold zfy;rw [hp,zj];cases hs:zq p [40]
 ·exact ⟨false,rfl,λ h=>by cases h⟩
 ·have hi:=h.sign hp hs;obtain ⟨q,hq⟩:=h.at_ (i+1) (by omega) (by omega)
  rw [p5,hq,zj];cases hk:decide (q.1=1)
  ·exact ⟨false,rfl,λ h=>by cases h⟩
  ·have hi1:=h.nm hq hk;obtain ⟨r,hr⟩:=h.at_ (i+2) (by omega) (by omega)
   rw [p5,hr,zj];refine ⟨_,rfl,λ hb=>⟨rfl,?_,q,rfl,pd hk⟩⟩;by_cases hlt:i+2<m
   ·exact hlt
   ·have:=(h.fin _ r hr (by omega)).2
    rw [this] at hb;exact absurd hb (by decide)
theorem zx3(h:Toks l m N):∀ k,UU l m k
 | 0=>by constructor <;> intros <;> omega
 | k+1=>by
  have hU:=zx3 h k;have hs:=h.small;constructor
  ·-- names
   intro i h0 h1 hf;show UN l m i (zds k l i);unfold zds;obtain ⟨p,hp⟩:=h.at_ i h0 (by omega)
   rw [hp,zj];cases hk:decide (p.1=1)
   ·exact ⟨_,rfl,⟨i,p,hp,rfl⟩,.inl rfl⟩
   ·have:=h.nm hp hk;rw [p5,wm hp];exact zkx h k (i+1) _ (by omega) (by omega) (by omega) zj2 (by simp; omega) (by omega)
  ·-- face
   intro i h0 h1 hf;show U l m i (zfw k l i);unfold zfw;refine zbp h h0 h1 λ p hp=>zau (λ hb=>?_) λ _=>?_
   ·have:=h.sign hp hb;rw [wm hp];exact zez (Int.le_refl _) (by omega) (by omega) (qa hp (by decide) (by decide) wi zdm (by decide) (by decide))
   ·exact zob h hp (Int.le_refl _) k i [] h0 (Int.le_refl _) h1 zdm (by simpa using h0) (by omega)
  ·-- term
   intro i v h0 h1 hf;show U l m i (zfs (zz k) l i v);unfold zfs;refine zbp h h0 h1 λ p hp=>zau (λ _=>zg9 hp (.inr rfl)) λ _=>zau (λ hb=>?_) λ _=>zau (λ hb=>?_) λ _=>?_
   ·have:=h.sign hp hb;rw [wm hp];refine ztp (hU.names (i+1) (by omega) (by omega) (by omega)) λ ns j hj hjm hn hl=>?_
    refine zdw h (by omega) hjm λ h2=>?_
    refine vg (hU.term (j+1) _ (by omega) h2 (by omega)) λ t j2 y hy hyj hj2 hWt=>?_
    exact zez (Int.le_refl _) (by omega) hj2 (qa hp (by decide) (by decide) hn (zcr hWt (by omega)) (by simp) (by omega))
   ·have:=h.sign hp hb;rw [wm hp];refine ztp (hU.names (i+1) (by omega) (by omega) (by omega)) λ ns j hj hjm hn hl=>?_
    refine zdw h (by omega) hjm λ h2=>?_
    refine vg (hU.term (j+1) _ (by omega) h2 (by omega)) λ t j2 y hy hyj hj2 hWt=>?_
    exact zez (Int.le_refl _) (by omega) hj2 (qa hp (by decide) (by decide) hn (zcr hWt (by omega)) (by simp) (by omega))
   ·obtain ⟨b,hb,hbt⟩:=zxx h hp;rw [hb,zj];refine zau (λ hb'=>?_) λ _=>?_
    ·obtain ⟨hb1,hb2,q,hq,hq1⟩:=hbt hb';rw [wm hp,hq,zj,wm hq];have e:up (i+1+1)=i+3:=by
      obtain ⟨r,hr⟩:=h.at_ (i+1+1) (by omega) (by omega)
      rw [wm hr]; omega
     rw [e];refine vg (hU.term (i+3) _ (by omega) (by omega) (by omega)) λ a j y hy hyj hj hWa=>?_
     refine zdw h (by omega) hj λ h2=>?_
     refine zbp h (by omega) h2 λ w hw=>zau (λ hb3=>?_) λ _=>?_
     ·have ha:=zud hb3;have:=h.lt hw (.inr ha.1);rw [wm hw];refine vg (hU.term (j+1+1) _ (by omega) (by omega) (by omega)) λ t j2 y2 hy2 hyj2 hj2 hWt=>?_
      exact zez (Int.le_refl _) (by omega) hj2 (qa hp (by omega) (by omega) zj2 (qu hWa (by omega) hWt (by omega)) (by simp) (by simp))
     ·have hWx:W l (i+1) ⟨1,q.2.1,[],[],q.2.2⟩:=zpy hq (by decide) (by decide)
      refine hU.after (j+1) _ _ i i h0 (Int.le_refl _) (by omega) h2 ?_ (by omega)
      exact qa hp (by decide) (by decide) wi (qu hWx (by omega) hWa (by omega)) (by simp) (by decide)
    ·refine vg (hU.atom i _ h0 h1 (by omega)) λ t j x hx hxj hj hWt=>?_
     exact hU.after j _ t x i h0 hx hxj hj hWt (by omega)
  ·-- after
   intro i v t x i0 h0 hx hxi h1 hW hf;exact zg8 h hU h0 k i x t hx hxi h1 hW (by omega) (by omega)
  ·-- atom
   intro i v h0 h1 hf;show U l m i (zfz (zz k) l i v);unfold zfz;refine zbp h h0 h1 λ p hp=>zau (λ hb=>?_) λ _=>zau (λ hb=>?_) λ _=>zau (λ hb=>?_) λ _=>zg9 hp (.inl rfl)
   ·have:=h.nm hp hb;rw [wm hp];exact zez (Int.le_refl _) (by omega) (by omega) (zpy hp (by decide) (by decide))
   ·exact hU.box i v p h0 h1 hp hb (by omega)
   ·have:=h.sign hp hb;rw [wm hp];refine vg (hU.term (i+1) _ (by omega) (by omega) (by omega)) λ t j x hx hxj hj hWt=>?_
    refine zbp h (by omega) hj λ q hq=>zau (λ hb=>?_) λ _=>zau (λ hb=>?_) λ _=>zau (λ hb=>?_) λ _=>zg9 hq (.inl rfl)
    ·have:=h.sign hq hb;rw [wm hq];refine vg (hU.term (j+1) _ (by omega) (by omega) (by omega)) λ u j2 y hy hyj hj2 hWu=>?_
     refine zdw h (by omega) hj2 λ h2=>?_
     exact zez (Int.le_refl _) (by omega) h2 (qa hp (by decide) (by decide) wi (qu hWt (by omega) hWu (by omega)) (by simp) (by decide))
    ·have:=h.sign hq hb;rw [wm hq];refine vg (hU.term (j+1) _ (by omega) (by omega) (by omega)) λ u j2 y hy hyj hj2 hWu=>?_
     refine zdw h (by omega) hj2 λ h2=>?_
     exact zez (Int.le_refl _) (by omega) h2 (qa hp (by decide) (by decide) wi (qu hWt (by omega) hWu (by omega)) (by simp) (by decide))
    ·have:=h.sign hq hb;rw [wm hq];exact zez (x:=x) (by omega) (by omega) (by omega) hWt
  ·-- box
   intro i v p h0 h1 hp hb hf;show U l m i (zia (zz k) k l i v);have:=h.sign hp hb;unfold zia;rw [hp,zj,wm hp];exact zl7 h hU hp (Int.le_refl _) h0 k (i+1) [] (by omega) (by omega) zdm (by simp; omega) (by omega) (by omega)
  ·-- join
   intro i v h0 h1 hf;show U l m i (zfv (zz k) k l i v);unfold zfv;refine vg (hU.meet i _ h0 h1 (by omega)) λ t j x hx hxj hj hWt=>?_
   exact znz h hU h0 k j x t hx hxj hj hWt (by omega) (by omega)
  ·-- meet
   intro i v h0 h1 hf;show U l m i (zfu (zz k) k l i v);unfold zfu;refine vg (hU.dim i _ h0 h1 (by omega)) λ t j x hx hxj hj hWt=>?_
   exact zns h hU h0 k j x t hx hxj hj hWt (by omega) (by omega)
  ·-- dim
   intro i v h0 h1 hf;show U l m i (zh8 (zz k) l i v);unfold zh8;refine zbp h h0 h1 λ p hp=>zau (λ _=>zg9 hp (.inr rfl)) λ _=>zau (λ hb=>?_) λ _=>zau (λ hb=>?_) λ _=>zau (λ hb=>?_) λ _=>zau (λ hb=>?_) λ _=>zg9 hp (.inl rfl)
   ·have:=h.nm hp hb;rw [wm hp];exact zez (Int.le_refl _) (by omega) (by omega) (zpy hp (by decide) (by decide))
   ·have:i<m:=by
     rcases Bool.or_eq_true _ _ |>.mp hb with h' | h'
     ·exact h.sign hp h'
     ·exact h.sign hp h'
    rw [wm hp];exact zez (Int.le_refl _) (by omega) (by omega) (zpy hp (by decide) (by decide))
   ·have:=h.sign hp hb;rw [wm hp];refine vg (hU.dim (i+1) _ (by omega) (by omega) (by omega)) λ t j x hx hxj hj hWt=>?_
    exact zez (Int.le_refl _) (by omega) hj (qa hp (by decide) (by decide) wi (zcr hWt (by omega)) (by simp) (by decide))
   ·have:=h.sign hp hb;rw [wm hp];refine vg (hU.join (i+1) _ (by omega) (by omega) (by omega)) λ t j x hx hxj hj hWt=>?_
    refine zdw h (by omega) hj λ h2=>?_
    exact zez (x:=x) (by omega) (by omega) h2 hWt
end
theorem zcj{k k':Int}{t t':List UInt8}{a a':Int}(h:y4 k t a=y4 k' t' a'):k=k'∧t=t'∧a=a':=by
 cases h; exact ⟨rfl,rfl,rfl⟩
theorem zlx{s:List UInt8}{e:Nat}{l:List D}(h:Cov s e l):∀ (x:Nat) d,l[x]?=some d→∃ k t a,d=y4 k t a∧(e:Int)≤a∧a≤s.length∧((x+1<l.length∧(k=1∨k=2))∨(x+1=l.length∧k=0∧t=[])):=by
 induction h with
 | @fin e he hp=>
  intro x d hd;cases x with
  | zero=>simp at hd; subst hd; exact ⟨0,[],_,rfl,by omega,Int.le_refl _,.inr ⟨rfl,rfl,rfl⟩⟩
  | succ x=>simp at hd
 | @tok e j k t rest he hp hlt ho hne hr ih=>
  intro x d hd;have hb:=wn he;rw [hp] at hb;have hr0:=hr.ne;cases x with
  | zero=>
   simp at hd; subst hd;refine ⟨k,t,_,rfl,by omega,by omega,.inl ⟨by simp; omega,?_⟩⟩
   rcases zid ho hne with h | h
   ·exact .inl h.1
   ·exact .inr h.1
  | succ x=>
   obtain ⟨k',t',a,h1,h2,h3,h4⟩:=ih x d (by simpa using hd)
   refine ⟨k',t',a,h1,by omega,h3,?_⟩
   simp only [p7];rcases h4 with h4 | h4
   ·exact .inl ⟨by omega,h4.2⟩
   ·exact .inr ⟨by omega,h4.2⟩
theorem z1h{s:List UInt8}{e:Nat}{l:List D}(h:Cov s e l):∀ (x y:Nat) k t a k' t' a',x<y→l[x]?=some (y4 k t a)→l[y]?=some (y4 k' t' a')→a<a':=by
 induction h with
 | @fin e he hp=>intro x y k t a k' t' a' hxy hx hy; obtain ⟨y,rfl⟩:∃ i,y=i+1:=⟨y - 1,by omega⟩; simp at hy
 | @tok e j k t rest he hp hlt ho hne hr ih=>
  intro x y k1 t1 a k' t' a' hxy hx hy;obtain ⟨y,rfl⟩:∃ i,y=i+1:=⟨y - 1,by omega⟩
  have hy':rest[y]?=some (y4 k' t' a'):=by simpa using hy
  cases x with
  | zero=>
   have e1:y4 k t (j:Int)=y4 k1 t1 a:=by simpa using hx
   obtain ⟨_,_,rfl⟩:=zcj e1;obtain ⟨k2,t2,a2,h1,h2,_⟩:=zlx hr y _ hy';obtain ⟨_,_,rfl⟩:=zcj h1;have:0<t.length:=List.length_pos_iff.2 hne;omega
  | succ x=>exact ih x y k1 t1 a k' t' a' (by omega) (by simpa using hx) hy'
theorem zr1{l:List D}{x:Nat}{k:Int}{t:List UInt8}{a:Int}(h:l[x]?=some (y4 k t a))(hx:x<4294967296):zg l (x:Int)=some (k,t,a):=by
 unfold zg;rw [pa (p:=(0:Int)≤(x:Int)) (by omega),pa (p:=(x:Int)<4294967296) (by omega),Bool.and_self,p5,px,h]
 rfl
theorem zhq{I:List D}{E:D}{x:Int}{p:Tk3}(h:zg (za7 (I++[E])) x=some p):0≤x∧∃ y:Nat,(I++[E])[y]?=some (y4 p.1 p.2.1 p.2.2)∧((x<I.length∧(y:Int)=x)∨((I.length:Int)≤x∧y=I.length)):=by
 obtain ⟨h0,h1,_,h3⟩:=qs h;refine ⟨h0,?_⟩;rw [zff] at h3 h1;by_cases hx:x.toNat<I.length
 ·refine ⟨x.toNat,?_,.inl ⟨by omega,by omega⟩⟩
  rw [List.append_assoc,List.getElem?_append_left hx] at h3;rw [List.getElem?_append_left hx]; exact h3
 ·refine ⟨I.length,?_,.inr ⟨by omega,rfl⟩⟩
  rw [List.append_assoc,List.getElem?_append_right (by omega)] at h3
  rw [List.getElem?_concat_length];simp only [ph,p7,p8] at h1;obtain ⟨i,hi⟩:∃ i,x.toNat - I.length=i:=⟨_,rfl⟩;rw [hi] at h3;have:i<3:=by omega
  match i,this with
  | 0,_=>exact h3
  | 1,_=>exact h3
  | 2,_=>exact h3
theorem zy8(I:List D)(E:D)(x:Int)(h0:0≤x)(h1:x≤(I.length:Int)+2):∃ y:Nat,(za7 (I++[E]))[x.toNat]?=(I++[E])[y]?∧y<(I++[E]).length:=by
 rw [zff];by_cases hx:x.toNat<I.length
 ·refine ⟨x.toNat,?_,by simp; omega⟩
  rw [List.append_assoc,List.getElem?_append_left hx,List.getElem?_append_left hx]
 ·refine ⟨I.length,?_,by simp⟩
  rw [List.append_assoc,List.getElem?_append_right (by omega),List.getElem?_concat_length]
  obtain ⟨i,hi⟩:∃ i,x.toNat - I.length=i:=⟨_,rfl⟩;rw [hi];have:i<3:=by omega
  match i,this with
  | 0,_=>rfl
  | 1,_=>rfl
  | 2,_=>rfl
theorem zya{s:List UInt8}(hs:s.length≤65536){I:List D}{E:D}(h:Cov s 0 (I++[E]))(hl:(I++[E]).length≤65537):Toks (za7 (I++[E])) I.length (s.length:Int):=by
 have hlen:(I++[E]).length=I.length+1:=by simp
 constructor
 ·intro x h0 h1;obtain ⟨y,h2,h3⟩:=zy8 I E x h0 h1;obtain ⟨k,t,a,h4,_⟩:=zlx h y _ (p9 h3);rw [p9 h3,h4] at h2;have:=zr1 h2 (by omega)
  rw [show ((x.toNat:Nat):Int)=x by omega] at this
  exact ⟨_,this⟩
 ·intro x p hp hx;obtain ⟨h0,y,hy,h1⟩:=zhq hp;obtain ⟨k,t,a,h4,_,_,h5⟩:=zlx h y _ hy;obtain ⟨rfl,_,_⟩:=zcj h4;omega
 ·intro x p hp hx;obtain ⟨h0,y,hy,h1⟩:=zhq hp;obtain ⟨k,t,a,h4,_,_,h5⟩:=zlx h y _ hy;obtain ⟨rfl,rfl,_⟩:=zcj h4;rcases h5 with h5 | h5
  ·omega
  ·exact h5.2
 ·omega
 ·intro x y p q hp hq hxy;obtain ⟨h0,x',hx',h1⟩:=zhq hp;obtain ⟨h0',y',hy',h1'⟩:=zhq hq;by_cases hlt:x'<y'
  ·have:=z1h h x' y' _ _ _ _ _ _ hlt hx' hy'; omega
  ·have:x'=y':=by omega
   subst this;rw [hx'] at hy';obtain ⟨_,_,h6⟩:=zcj (Option.some.inj hy');omega
 ·intro x p hp;obtain ⟨h0,y,hy,h1⟩:=zhq hp;obtain ⟨k,t,a,h4,h5,h6,_⟩:=zlx h y _ hy;obtain ⟨_,_,rfl⟩:=zcj h4;exact ⟨by omega,h6⟩
structure Text (s:List UInt8) (I:List D):Prop where
 len:s.length≤65536
 scan:wc s=(I++[y4 0 [] (s.length:Int)],0,0)
 cov:Cov s 0 (I++[y4 0 [] (s.length:Int)])
 toks:Toks (za7 (I++[y4 0 [] (s.length:Int)])) I.length (s.length:Int)
theorem ztr(s:List UInt8):(∃ I,Text s I)∨(xg s ≠ 0∧∃ p:Nat,qb s=(p:Int)∧p≤s.length):=by
 rcases zdj s with ⟨h1,_,l,h3,h4⟩ | ⟨h1,_,p,h3,h4⟩
 ·obtain ⟨I,rfl⟩:=zrp h4;have hl:=zkg s;rw [h3] at hl;replace hl:(I++[y4 0 [] (s.length:Int)]).length≤s.length+1:=hl;exact .inl ⟨I,h1,h3,h4,zya h1 h4 (by omega)⟩
 ·exact .inr ⟨h1,p,h3,h4⟩
theorem zts{s:List UInt8}{I:List D}(h:Text s I){k:Nat}(hk:600000≤k) :
  (∃ t n,xp k s=some (.ok t)∧xo k (za7 (I++[y4 0 [] (s.length:Int)])) 0 1=some (.ok t I.length)∧0<I.length∧∃ x,0≤x∧Wn (za7 (I++[y4 0 [] (s.length:Int)])) n x t) ∨
  (∃ a e,xp k s=some (.bad a e)∧0≤a∧a≤s.length∧(e=61∨e=62)):=by
 have hE:xg s=0:=by unfold xg; rw [h.scan]
 have hL:yk s=I++[y4 0 [] (s.length:Int)]:=by unfold yk; rw [h.scan]
 have hT:=h.toks;have hsm:=hT.small;obtain ⟨out,ho,hg⟩:=(zx3 hT k).term 0 1 (Int.le_refl _) (by omega) (by have:=hT.small; have:=h.len; have hl:=zkg s; rw [h.scan] at hl; simp at hl; omega)
 unfold xp;rw [hE,pa rfl,p5,hL];change xo k _ 0 1=some out at ho;rw [ho,zj];cases out with
 | ok t j=>
  obtain ⟨x,h1,h2,h3,n,hW⟩:=hg;obtain ⟨q,hq⟩:=hT.at_ j (by omega) (by omega)
  show (∃ t_1 n,zc (zg _ j) _=_∧_)∨(∃ a e,zc (zg _ j) _=_∧_);rw [hq,zj];by_cases hz:q.1=0
  ·have hj:j=I.length:=by
    by_cases hlt:j<I.length
    ·have:=hT.kind j q hq hlt; omega
    ·omega
   subst hj;refine .inl ⟨t,n,?_,rfl,by omega,x,h1,hW⟩
   rw [pa hz]; rfl
  ·have:=hT.low j q hq;refine .inr ⟨q.2.2,61,?_,this.1,this.2,.inl rfl⟩;rw [pb hz]; rfl
 | bad a e j=>
  obtain ⟨⟨x,p,hp,rfl⟩,he⟩:=hg;have:=hT.low x p hp;exact .inr ⟨p.2.2,e,rfl,this.1,this.2,he⟩
def zwk(x:List UInt8):Prop:=∀ j,y8 false x j=j
inductive Lex:List UInt8→List (Int×List UInt8)→Prop
 | nil:Lex [] []
 | blank {r l}:Lex r l→Lex (32::r) l
 | line {r l}:Lex r l→Lex (10::r) l
 | tok {k t r l}:ye (t++r)=(k,t)→t ≠ []→zwk (t++r)→Lex r l→Lex (t++r) ((k,t)::l)
inductive Er:List D→List (Int×List UInt8)→Prop
 | nil:Er [] []
 | tok {k t a I l}:Er I l→Er (y4 k t a::I) ((k,t)::l)
theorem zok{X:List UInt8}{e e':Nat}{l:List D}(h:Cov X e' l)(hp:yh X e=yh X e')(he:e≤X.length):Cov X e l:=by
 cases h with
 | fin h1 h2=>exact .fin he (hp.trans h2)
 | tok h1 h2 h3 h4 h5 h6=>exact .tok he (hp.trans h2) h3 h4 h5 h6
theorem zyt{x:List UInt8}{l:List (Int×List UInt8)}(h:Lex x l):∀ p:List UInt8,∃ I:List D,Cov (p++x) p.length (I++[y4 0 [] ((p++x).length:Int)])∧Er I l:=by
 induction h with
 | nil=>
  intro p;refine ⟨[],.fin (by simp) ?_,.nil⟩
  unfold yh;simp [y8]
 | @blank r l h ih=>
  intro p;obtain ⟨I,h1,h2⟩:=ih (p++[32]);have e:p++[32]++r=p++32::r:=by simp
  have el:(p++[32]).length=p.length+1:=by simp
  rw [e,el] at h1;refine ⟨I,zok h1 ?_ (by simp),h2⟩
  unfold yh;have d1:(p++32::r).drop p.length=32::r:=by simp
  have d2:(p++32::r).drop (p.length+1)=r:=by rw [←e,←el]; simp
  rw [d1,d2];rfl
 | @line r l h ih=>
  intro p;obtain ⟨I,h1,h2⟩:=ih (p++[10]);have e:p++[10]++r=p++10::r:=by simp
  have el:(p++[10]).length=p.length+1:=by simp
  rw [e,el] at h1;refine ⟨I,zok h1 ?_ (by simp),h2⟩
  unfold yh;have d1:(p++10::r).drop p.length=10::r:=by simp
  have d2:(p++10::r).drop (p.length+1)=r:=by rw [←e,←el]; simp
  rw [d1,d2];rfl
 | @tok k t r l ho hne hs h ih=>
  intro p;obtain ⟨I,h1,h2⟩:=ih (p++t);have e:p++t++r=p++(t++r):=by simp
  have el:(p++t).length=p.length+t.length:=by simp
  rw [e,el] at h1;have d1:(p++(t++r)).drop p.length=t++r:=by simp
  have hpos:0<t.length:=List.length_pos_iff.2 hne;refine ⟨y4 k t (p.length:Int)::I,.tok (by simp) ?_ (by simp; omega) (by rw [d1]; exact ho) hne h1,.tok h2⟩
  unfold yh;rw [d1];exact hs _
theorem zys{x:List UInt8}{l:List (Int×List UInt8)}(h:Lex x l):∀ c∈x,c.toNat<128:=by
 induction h with
 | nil=>intro c h; cases h
 | blank _ ih=>
  intro c h;cases h with
  | head=>decide
  | tail _ h=>exact ih c h
 | line _ ih=>
  intro c h;cases h with
  | head=>decide
  | tail _ h=>exact ih c h
 | tok ho hne _ _ ih=>
  intro c h;rcases List.mem_append.1 h with h | h
  ·exact zz4 (zid ho hne) c h
  ·exact ih c h
theorem zqz{x:List UInt8}{l:List (Int×List UInt8)}(h:Lex x l)(hx:x.length≤65536):∃ I,wc x=(I++[y4 0 [] (x.length:Int)],0,0)∧Er I l:=by
 obtain ⟨I,h1,h2⟩:=zyt h [];refine ⟨I,?_,h2⟩;unfold wc;rw [pb (by omega),p6,zto _ _ _ (Nat.le_refl _) (zys h)]
 have hb:=wn (s:=x) (j:=0) (Nat.zero_le _);have:=zxq h1 (x.length+1) [] (by simp; omega)
 simpa using this
def LQ(s:List UInt8)(ks:List (Int×List UInt8)):Prop:=∀ r l,Lex r l→Lex (s++r) (ks++l)
def fol(r:List UInt8):Prop:=∀ c∈r.head?,(yq (c.toNat:Int)||va (c.toNat:Int))=false
def LP1(s:List UInt8)(ks:List (Int×List UInt8)):Prop:=∀ r l,fol r→Lex r l→Lex (s++r) (ks++l)
theorem zyq(c:UInt8)(h:∀ r,ye (c::r)=(2,[c]))(hs:∀ r,zwk (c::r)):LQ [c] [(2,[c])]:=λ r _ hr=>.tok (h r) (by simp) (hs r) hr
theorem z0q:LQ [46] [(2,[46])]:=zyq 46 (λ _=>rfl) λ _ _=>rfl
theorem zkz:∀ (t r:List UInt8) (j:Nat),0<j→(∀ c∈t,(yq (c.toNat:Int)||va (c.toNat:Int))=true)→fol r→y0 (t++r) j=j+t.length
 | [],r,j,hj,_,hr=>by
  cases r with
  | nil=>rfl
  | cons c r=>
   have:=hr c rfl;rw [List.nil_append,y0,pa hj,Bool.true_and,this];rfl
 | b::t,r,j,hj,ht,hr=>by
  have hb:=ht b py;have ih:=zkz t r (j+1) (by omega) (λ c hc=>ht c (p0 _ hc)) hr
  rw [List.cons_append,y0,pa hj,Bool.true_and,hb,p5,ih,p7]; omega
theorem zpb{b:UInt8}(h:yq (b.toNat:Int)=true)(r:List UInt8):zwk (b::r):=by
 intro j;have hl:(97≤(b.toNat:Int)∧(b.toNat:Int)≤122)∨(65≤(b.toNat:Int)∧(b.toNat:Int)≤90)∨(b.toNat:Int)=95:=by
  simp only [yq,Bool.or_eq_true,pq,decide_eq_true_eq] at h;omega
 have h1:zbw (b.toNat:Int)=false:=by
  unfold zbw;rw [pb (by omega),pb (by omega),pb (by omega),pb (by omega)]; rfl
 rw [y8,h1,p6,pb (by omega),Bool.false_and,p6]
def zlc(s:List UInt8):Prop:=∃ b t,s=b::t∧yq (b.toNat:Int)=true∧∀ c∈t,(yq (c.toNat:Int)||va (c.toNat:Int))=true
theorem zt2{s:List UInt8}(h:zlc s):LP1 s [(1,s)]:=by
 intro r l hf hr;obtain ⟨b,t,rfl,hb,ht⟩:=h;have hn:yl ((b::t)++r)=t.length+1:=by
  unfold yl;rw [List.cons_append,y0,hb,Bool.true_or,p5,zkz t r (0+1) (by omega) ht hf]; omega
 refine Lex.tok (k:=1) (t:=b::t) ?_ (by simp) (zpb hb _) hr
 unfold ye;rw [hn,pa (by omega),p5]
 have:((b::t)++r).take (t.length+1)=b::t:=by
  rw [show t.length+1=(b::t).length from rfl,List.take_left'];rfl
 rw [this]
theorem zyi{b:UInt8}(h:yq (b.toNat:Int)=true)(r:List UInt8):ye (92::b::r)=(2,[92]):=by
 have hb:b ≠ 47:=by rintro rfl; exact absurd h (by decide)
 unfold ye;have h1:yl (92::b::r)=0:=rfl;have h2:zm (92::b::r) [92,47]=false:=by
  unfold zm;exact pb (by simpa using hb)
 rw [h1];show zy (92::b::r) qm=_;have e:qm=[45,62]::[47,92]::[92,47]::qm.drop 3:=rfl;rw [e,zy,zy,zy,h2];rfl
end Go.Vai
end
section
namespace Go.Proofs
open Go.Shelf
def Tryz.growS_ren:Go.Shelf.Ren:=⟨λ | 4=>165 | n=>n,λ | 22=>23 | 25=>9 | 3=>3 | 4=>4 | 9=>9 | 20=>20 | 0=>0 | n=>n,λ | n=>n⟩
theorem Tryz.growS:Go.Proofs.Lays8.n4 Tryz.prog Tryz.growS_ren:={
 mixed:=by kernel_rfl
 f4:=⟨Tryz.f165.name,by decide,Tryz.func165.trans (congrArg some (by kernel_rfl))⟩
 t0:=Tryz.underlying0
 a0:=Tryz.isAgg0
 z0:=Tryz.sizeOf0
 v0:=Tryz.zeroValue0
 t3:=Tryz.underlying3
 a3:=Tryz.isAgg3
 z3:=Tryz.sizeOf3
 v3:=Tryz.zeroValue3
 t4:=Tryz.underlying4
 a4:=Tryz.isAgg4
 z4:=Tryz.sizeOf4
 v4:=Tryz.zeroValue4
 t9:=Tryz.underlying9
 a9:=Tryz.isAgg9
 z9:=Tryz.sizeOf9
 v9:=Tryz.zeroValue9
 t20:=Tryz.underlying20
 a20:=Tryz.isAgg20
 z20:=Tryz.sizeOf20
 v20:=Tryz.zeroValue20
 t22:=Tryz.underlying23
 a22:=Tryz.isAgg23
 z22:=Tryz.sizeOf23
 v22:=Tryz.zeroValue23 }
def Tryz.lays169_ren:Go.Shelf.Ren:=⟨λ | 169=>164 | n=>n,λ | 70=>173 | 9=>9 | 0=>0 | 72=>176 | 37=>174 | 127=>232 | 3=>3 | 5=>5 | n=>n,λ | n=>n⟩
theorem Tryz.lays169:Go.Proofs.Lays.n169 Tryz.prog Tryz.lays169_ren:={
 mixed:=by kernel_rfl
 f169:=Tryz.func164.trans (congrArg some (by kernel_rfl))
 t0:=Tryz.underlying0
 a0:=Tryz.isAgg0
 z0:=Tryz.sizeOf0
 v0:=Tryz.zeroValue0
 t3:=Tryz.underlying3
 a3:=Tryz.isAgg3
 z3:=Tryz.sizeOf3
 v3:=Tryz.zeroValue3
 t9:=Tryz.underlying9
 a9:=Tryz.isAgg9
 z9:=Tryz.sizeOf9
 v9:=Tryz.zeroValue9
 t37:=Tryz.underlying174
 a37:=Tryz.isAgg174
 z37:=Tryz.sizeOf174
 v37:=Tryz.zeroValue174
 t70:=Tryz.underlying173
 a70:=Tryz.isAgg173
 z70:=Tryz.sizeOf173
 v70:=Tryz.zeroValue173
 t72:=Tryz.underlying176
 a72:=Tryz.isAgg176
 z72:=Tryz.sizeOf176
 v72:=Tryz.zeroValue176
 t127:=Tryz.underlying232
 a127:=Tryz.isAgg232
 z127:=Tryz.sizeOf232
 v127:=Tryz.zeroValue232 }
theorem Tryz.Builder_Extra_169:Builder.Extra Tryz.prog Tryz.lays169_ren:={
 sizeBuilder:=by kernel_rfl
 liesBuilder:=by kernel_rfl
 t5:=Tryz.underlying5
 a5:=Tryz.isAgg5
 z5:=Tryz.sizeOf5
 v5:=Tryz.zeroValue5
 infoByte:=by kernel_rfl
 cellsByte:=by kernel_rfl
 sizeByte:=by kernel_rfl
 neB5:=by decide }
open Go.RowKit in
def Tryz.lays156_ren:Go.Shelf.Ren:=⟨λ | 156=>192 | 165=>215 | 166=>159 | 169=>164 | 240=>191 | 241=>231 | 276=>214 | 277=>242 | n=>n,λ | 31=>23 | 9=>9 | 3=>3 | 4=>4 | 0=>0 | 20=>20 | 72=>176 | 76=>204 | 70=>173 | 37=>174 | 75=>203 | 127=>232 | 164=>237 | 5=>5 | 80=>155 | n=>n,λ | n=>n⟩
theorem Tryz.lays156:Go.Proofs.Lays.n156 Tryz.prog Tryz.lays156_ren:={
 mixed:=by kernel_rfl
 f156:=Tryz.func192.trans (congrArg some (by kernel_rfl))
 f165:=Tryz.func215.trans (congrArg some (by kernel_rfl))
 f166:=Tryz.func159.trans (congrArg some (by kernel_rfl))
 f169:=Tryz.func164.trans (congrArg some (by kernel_rfl))
 f240:=Tryz.func191.trans (congrArg some (by kernel_rfl))
 f241:=Tryz.func231.trans (congrArg some (by kernel_rfl))
 f276:=Tryz.func214.trans (congrArg some (by kernel_rfl))
 f277:=Tryz.func242.trans (congrArg some (by kernel_rfl))
 t0:=Tryz.underlying0
 a0:=Tryz.isAgg0
 z0:=Tryz.sizeOf0
 v0:=Tryz.zeroValue0
 t3:=Tryz.underlying3
 a3:=Tryz.isAgg3
 z3:=Tryz.sizeOf3
 v3:=Tryz.zeroValue3
 t4:=Tryz.underlying4
 a4:=Tryz.isAgg4
 z4:=Tryz.sizeOf4
 v4:=Tryz.zeroValue4
 t9:=Tryz.underlying9
 a9:=Tryz.isAgg9
 z9:=Tryz.sizeOf9
 v9:=Tryz.zeroValue9
 t20:=Tryz.underlying20
 a20:=Tryz.isAgg20
 z20:=Tryz.sizeOf20
 v20:=Tryz.zeroValue20
 t31:=Tryz.underlying23
 a31:=Tryz.isAgg23
 z31:=Tryz.sizeOf23
 v31:=Tryz.zeroValue23
 t37:=Tryz.underlying174
 a37:=Tryz.isAgg174
 z37:=Tryz.sizeOf174
 v37:=Tryz.zeroValue174
 t70:=Tryz.underlying173
 a70:=Tryz.isAgg173
 z70:=Tryz.sizeOf173
 v70:=Tryz.zeroValue173
 t72:=Tryz.underlying176
 a72:=Tryz.isAgg176
 z72:=Tryz.sizeOf176
 v72:=Tryz.zeroValue176
 t75:=Tryz.underlying203
 a75:=Tryz.isAgg203
 z75:=Tryz.sizeOf203
 v75:=Tryz.zeroValue203
 t76:=Tryz.underlying204
 a76:=Tryz.isAgg204
 z76:=Tryz.sizeOf204
 v76:=Tryz.zeroValue204
 t127:=Tryz.underlying232
 a127:=Tryz.isAgg232
 z127:=Tryz.sizeOf232
 v127:=Tryz.zeroValue232
 t164:=Tryz.underlying237
 a164:=Tryz.isAgg237
 z164:=Tryz.sizeOf237
 v164:=Tryz.zeroValue237 }
theorem Tryz.Builder_Extra_156:Builder.Extra Tryz.prog Tryz.lays156_ren:={
 sizeBuilder:=by kernel_rfl
 liesBuilder:=by kernel_rfl
 t5:=Tryz.underlying5
 a5:=Tryz.isAgg5
 z5:=Tryz.sizeOf5
 v5:=Tryz.zeroValue5
 infoByte:=by kernel_rfl
 cellsByte:=by kernel_rfl
 sizeByte:=by kernel_rfl
 neB5:=by decide }
open Go.RowKit in
theorem Tryz.strings_Join_none(a:Option Addr)(c:Nat)(sep:ByteArray)(w:World) :
  Calls Tryz.prog 192 #[.slice a 0 c,.string sep] w λ e w'=>e=.returned (.string ⟨#[]⟩)∧w'=w:=Any.strings_Join_none Tryz.lays156 Tryz.Builder_Extra_156 a c sep w
open Go.RowKit in
theorem Tryz.strings_Join(bk o c:Nat)(xs:List ByteArray)(sep:ByteArray)(w:World)(hcells:∀ (j:Nat) x,xs[j]?=some x→w.cell? ⟨bk,o+j,none⟩=some (.string x))(hbk:bk<w.heap.size)(hN:xs.length≤140737488355328)(hcap:xs.length≤c)(hlen:(Lib.join (xs.map (·.data.toList)) sep.data.toList).length≤140737488355328) :
  Calls Tryz.prog 192 #[.slice (some ⟨bk,o,none⟩) xs.length c,.string sep] w λ e w'=>e=.returned (.string ⟨(Lib.join (xs.map (·.data.toList)) sep.data.toList).toArray⟩)∧Below w.heap.size w w':=Any.strings_Join Tryz.lays156 Tryz.Builder_Extra_156 bk o c xs sep w hcells hbk hN hcap hlen
def Tryz.lays189_ren:Go.Shelf.Ren:=⟨λ | 189=>49 | 125=>86 | 257=>85 | 128=>124 | 129=>125 | 294=>115 | 295=>116 | 296=>117 | 297=>118 | 298=>119 | 299=>120 | 216=>121 | 300=>122 | 301=>123 | 328=>152 | 329=>153 | 330=>154 | 331=>155 | 332=>156 | 215=>157 | 343=>190 | n=>n,λ | 28=>47 | 3=>3 | 46=>140 | 0=>0 | 51=>78 | 53=>44 | 4=>4 | 183=>164 | 182=>163 | 131=>102 | 5=>5 | 9=>9 | 218=>196 | 222=>200 | 228=>229 | 229=>230 | n=>n,λ | n=>n⟩
theorem Tryz.lays189:Go.Proofs.Lays.n189 Tryz.prog Tryz.lays189_ren:={
 mixed:=by kernel_rfl
 f125:=Tryz.func86.trans (congrArg some (by kernel_rfl))
 f128:=Tryz.func124.trans (congrArg some (by kernel_rfl))
 f129:=Tryz.func125.trans (congrArg some (by kernel_rfl))
 f189:=Tryz.func49.trans (congrArg some (by kernel_rfl))
 f215:=Tryz.func157.trans (congrArg some (by kernel_rfl))
 f216:=Tryz.func121.trans (congrArg some (by kernel_rfl))
 f257:=Tryz.func85.trans (congrArg some (by kernel_rfl))
 f294:=Tryz.func115.trans (congrArg some (by kernel_rfl))
 f295:=Tryz.func116.trans (congrArg some (by kernel_rfl))
 f296:=Tryz.func117.trans (congrArg some (by kernel_rfl))
 f297:=Tryz.func118.trans (congrArg some (by kernel_rfl))
 f298:=Tryz.func119.trans (congrArg some (by kernel_rfl))
 f299:=Tryz.func120.trans (congrArg some (by kernel_rfl))
 f300:=Tryz.func122.trans (congrArg some (by kernel_rfl))
 f301:=Tryz.func123.trans (congrArg some (by kernel_rfl))
 f328:=Tryz.func152.trans (congrArg some (by kernel_rfl))
 f329:=Tryz.func153.trans (congrArg some (by kernel_rfl))
 f330:=Tryz.func154.trans (congrArg some (by kernel_rfl))
 f331:=Tryz.func155.trans (congrArg some (by kernel_rfl))
 f332:=Tryz.func156.trans (congrArg some (by kernel_rfl))
 f343:=Tryz.func190.trans (congrArg some (by kernel_rfl))
 t0:=Tryz.underlying0
 a0:=Tryz.isAgg0
 z0:=Tryz.sizeOf0
 v0:=Tryz.zeroValue0
 t3:=Tryz.underlying3
 a3:=Tryz.isAgg3
 z3:=Tryz.sizeOf3
 v3:=Tryz.zeroValue3
 t4:=Tryz.underlying4
 a4:=Tryz.isAgg4
 z4:=Tryz.sizeOf4
 v4:=Tryz.zeroValue4
 t5:=Tryz.underlying5
 a5:=Tryz.isAgg5
 z5:=Tryz.sizeOf5
 v5:=Tryz.zeroValue5
 t9:=Tryz.underlying9
 a9:=Tryz.isAgg9
 z9:=Tryz.sizeOf9
 v9:=Tryz.zeroValue9
 t28:=Tryz.underlying47
 a28:=Tryz.isAgg47
 z28:=Tryz.sizeOf47
 v28:=Tryz.zeroValue47
 t46:=Tryz.underlying140
 a46:=Tryz.isAgg140
 z46:=Tryz.sizeOf140
 v46:=Tryz.zeroValue140
 t51:=Tryz.underlying78
 a51:=Tryz.isAgg78
 z51:=Tryz.sizeOf78
 v51:=Tryz.zeroValue78
 t53:=Tryz.underlying44
 a53:=Tryz.isAgg44
 z53:=Tryz.sizeOf44
 v53:=Tryz.zeroValue44
 t131:=Tryz.underlying102
 a131:=Tryz.isAgg102
 z131:=Tryz.sizeOf102
 v131:=Tryz.zeroValue102
 t182:=Tryz.underlying163
 a182:=Tryz.isAgg163
 z182:=Tryz.sizeOf163
 v182:=Tryz.zeroValue163
 t183:=Tryz.underlying164
 a183:=Tryz.isAgg164
 z183:=Tryz.sizeOf164
 v183:=Tryz.zeroValue164
 t218:=Tryz.underlying196
 a218:=Tryz.isAgg196
 z218:=Tryz.sizeOf196
 v218:=Tryz.zeroValue196
 t222:=Tryz.underlying200
 a222:=Tryz.isAgg200
 z222:=Tryz.sizeOf200
 v222:=Tryz.zeroValue200
 t228:=Tryz.underlying229
 a228:=Tryz.isAgg229
 z228:=Tryz.sizeOf229
 v228:=Tryz.zeroValue229
 t229:=Tryz.underlying230
 a229:=Tryz.isAgg230
 z229:=Tryz.sizeOf230
 v229:=Tryz.zeroValue230 }
open Go.Sort Go.RowKit in
theorem Tryz.slices_Sort_int(blk off cap:Nat)(zs:List Int)(w:World)(hH:Holds (Value.int .i64) w blk off zs.toArray)(hblk:blk<w.heap.size)(hsz:zs.length<4611686018427387904) :
  Calls Tryz.prog 49 #[.slice (some ⟨blk,off,none⟩) zs.length cap] w λ e w'=>
   e=.returned (.tuple #[])∧∃ n os,w'=grow (putRow (Value.int .i64) (Sort.ahead w n) blk off (zs.mergeSort λ x y=>decide (x≤y)).toArray) os:=Any.slices_Sort_int Tryz.lays189 blk off cap zs w hH hblk hsz
def Tryz.laysNm216_ren:Go.Shelf.Ren:=⟨λ | 16=>99 | n=>n,λ | 24=>23 | 9=>9 | 4=>4 | n=>n,λ | n=>n⟩
theorem Tryz.laysNm216:Go.Proofs.Lays2.n16 Tryz.prog Tryz.laysNm216_ren:={
 mixed:=by kernel_rfl
 f16:=Tryz.func99.trans (congrArg some (by kernel_rfl))
 t4:=Tryz.underlying4
 a4:=Tryz.isAgg4
 z4:=Tryz.sizeOf4
 v4:=Tryz.zeroValue4
 t9:=Tryz.underlying9
 a9:=Tryz.isAgg9
 z9:=Tryz.sizeOf9
 v9:=Tryz.zeroValue9
 t24:=Tryz.underlying23
 a24:=Tryz.isAgg23
 z24:=Tryz.sizeOf23
 v24:=Tryz.zeroValue23
 i9:=by kernel_rfl }
open Go.RowKit Go.Lib in
theorem Tryz.slices_Clone_string(b off n c:Nat)(zs:List ByteArray)(w:World)(hz:n≤zs.length)(hbig:n * 16≤140737488355328)(hc:∀ j,j<zs.length→w.cell? ⟨b,off+j,none⟩=some (.string (zs.getD j ByteArray.empty))) :
  Calls Tryz.prog 99 #[.slice (some ⟨b,off,none⟩) n c] w λ e w'=>∃ v',e=.returned v'∧w'.ownsRow w.heap.size 9 1 v' n ((zs.take n).map (Value.string))∧v' ≠ .slice none 0 0∧Below w.heap.size w w':=Any.slices_Clone_string Tryz.laysNm216 b off n c zs w hz hbig hc
open Go.RowKit Go.Lib in
theorem Tryz.slices_Clone_string_nil(n c:Nat)(w:World) :
  Calls Tryz.prog 99 #[.slice none n c] w λ e w'=>e=.returned (.slice none 0 0)∧w'=w:=Any.slices_Clone_string_nil Tryz.laysNm216 n c w
open Go.RowKit Go.Lib in
theorem Tryz.slices_Clone_string_zero(a:Addr)(c:Nat)(w:World) :
  Calls Tryz.prog 99 #[.slice (some a) 0 c] w λ e w'=>∃ v',e=.returned v'∧w'.ownsRow w.heap.size 9 1 v' 0 []∧v' ≠ .slice none 0 0∧Below w.heap.size w w':=Any.slices_Clone_string_zero Tryz.laysNm216 a c w
end Go.Proofs
end
