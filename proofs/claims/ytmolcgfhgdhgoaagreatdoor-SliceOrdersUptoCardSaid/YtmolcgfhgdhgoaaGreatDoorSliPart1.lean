/-
  The library's functions that are taken as one step: what they do. To: Lex: the reference: is it a text? The whole.
-/
import Derived.Test.YtmolcgfhgdhgoaaGreatDoorVaiPart6
import Derived.Lib.Join
import Derived.Test.YtmolcgfhgdhgoaaGreatDoorCards
import Derived.Test.YtmolcgfhgdhgoaaGreatDoorTie
import Derived.KernelRfl
import Derived.IntWalk
set_option linter.all false
noncomputable section
namespace Go.Vai
def zoc(b:UInt8):D:=.int .u8 b.toNat
def zfn:List D→Option (List UInt8)
 | []=>some []
 | .int .u8 n::r=>bif decide (((UInt8.ofNat n.toNat).toNat:Int)=n) then (match zfn r with | some l=>some (UInt8.ofNat n.toNat::l) | none=>none) else none
 | _=>none
theorem zz3(s:List UInt8):zfn (s.map zoc)=some s:=by
 induction s with
 | nil=>rfl
 | cons b r ih=>simp [zfn,zoc,ih]
theorem zqy:∀ (l:List D) (s:List UInt8),zfn l=some s→l=s.map zoc
 | [],s,h=>by simp [zfn] at h; subst h; rfl
 | x::r,s,h=>by
  unfold zfn at h;split at h
  ·rename_i he; cases he
  ·rename_i n q he;cases he;cases hd:decide (((UInt8.ofNat n.toNat).toNat:Int)=n) <;> rw [hd] at h
   ·cases h
   ·simp only [pw] at h;split at h
    ·rename_i l hl;cases h;have:=pc hd;rw [zqy r l hl,List.map_cons,zoc,this]
    ·cases h
  ·cases h
def yak:List V→Option Nat | [.ptr i 0]=>some i | _=>none
def z4u:Option Ob→Option (Nat×List D×Nat) | some (.val _ (.agg (_::.sl sz l id::_)))=>some (sz,l,id) | _=>none
def z4o:Option Ob→Option Nat | some (.tok k)=>some k | _=>none
theorem z2b{a:List V}{i:Nat}(h:yak a=some i):a=[.ptr i 0]:=by
 unfold yak at h;split at h
 ·cases h; rfl
 ·cases h
theorem zyo{o:Option Ob}{q:Nat×List D×Nat}(h:z4u o=some q):∃ n p r,o=some (.val n (.agg (p::.sl q.1 q.2.1 q.2.2::r))):=by
 unfold z4u at h;split at h
 ·cases h; exact ⟨_,_,_,rfl⟩
 ·cases h
theorem zyj{o:Option Ob}{k:Nat}(h:z4o o=some k):o=some (.tok k):=by
 unfold z4o at h;split at h
 ·cases h; rfl
 ·cases h
def zm0(args:List V)(σ:St):Option (Out×St):=
 zc (yak args) λ i=>zc (z4u (zl σ i)) λ q=>zc (z4o (zl σ q.2.2)) λ k=>
  zb (Nat.beq q.1 6291457&&decide (k=q.2.1.length)&&decide (q.2.1.length≤4294967296)) (zc (zfn q.2.1) λ s=>some (.ret (.d (.str s)),qt σ q.2.2 (.tok (k+1))))
def zlg:List D→Option (List (List UInt8))
 | []=>some []
 | .str s::r=>(match zlg r with | some l=>some (s::l) | none=>none)
 | _=>none
theorem zsc(l:List (List UInt8)):zlg (l.map .str)=some l:=by
 induction l with
 | nil=>rfl
 | cons b r ih=>simp [zlg,ih]
theorem zmn:∀ (l:List D) (s:List (List UInt8)),zlg l=some s→l=s.map .str
 | [],s,h=>by simp [zlg] at h; subst h; rfl
 | x::r,s,h=>by
  unfold zlg at h;split at h
  ·rename_i he; cases he
  ·rename_i n q he;cases he;split at h
   ·rename_i l hl;cases h;rw [zmn r l hl,List.map_cons]
   ·cases h
  ·cases h
def zlz(args:List V)(σ:St):Option (Out×St):=
 match args with
 | [.d (.sl _ xs),.d (.str sep)]=>zc (zlg xs) λ l=>zb (decide (l.length≤140737488355328)&&decide ((Lib.join l sep).length≤140737488355328)) (some (.ret (.d (.str (Lib.join l sep))),σ))
 | _=>none
def zi9(x:Int):List Int→List Int
 | []=>[x]
 | y::r=>bif decide (x≤y) then x::y::r else y::zi9 x r
def qh:List Int→List Int
 | []=>[]
 | x::r=>zi9 x (qh r)
def zef:List D→Option (List Int)
 | []=>some []
 | .int .i64 n::r=>(match zef r with | some l=>some (n::l) | none=>none)
 | _=>none
def zly(args:List V)(σ:St):Option (Out×St):=
 match args with
 | [.slo i 1 k]=>(match zl σ i with
   | some (.row l)=>zb (Nat.beq k l.length&&decide (l.length≤4294967296)&&!l.isEmpty) (zc (zef l) λ zs=>some (.ret (.tup []),qt σ i (.row ((qh zs).map (.int .i64)))))
   | _=>none)
 | _=>none
def zi5(args:List V)(σ:St):Option (Out×St):=
 match args with
 | [.d (.sl 1 l)]=>zb (decide (l.length≤4294967296)) (zc (zlg l) λ _=>some (.ret (.d (.sl 1 l)),σ))
 | _=>none
def nat(f:Nat)(args:List V)(σ:St):Option (Out×St):=
 bif Nat.beq f 164 then zm0 args σ else bif Nat.beq f 192 then zlz args σ else bif Nat.beq f 49 then zly args σ else bif Nat.beq f 99 then zi5 args σ else none
open Go.Proofs
def ydb:List (Nat×List (Nat×List Nat)):=[(3,[(0,[0,1,2,3]),(2,[0,1,2,3,39,40,41]),(13,[0,1,2,3,39,40,41])]),
 (7,[(0,[5]),(2,[0,1,5,7,59,60,61]),(4,[0,1,5,7,10,11,59,60,61]),(6,[0,1,5,7,10,11,59,60,61,80,81,82]),(8,[0,1,5,7,59,60,61]),(10,[0,1,5,7,59,60,61,111,112,113]),(21,[0,1,5,7,59,60,61]),(33,[0,1,5,7,10,11,59,60,61,80,81,82]),(47,[0,1,5,7,59,60,61,111,112,113])]),
 (8,[(0,[0,7]),(2,[0,5,7,51,52,53]),(4,[0,5,7,9,51,52,53]),(6,[0,5,7,9,51,52,53,73,74,75]),(27,[0,5,7,51,52,53]),(37,[0,5,7,9,51,52,53,73,74,75])]),
 (13,[(0,[]),(2,[0,3,4,5]),(9,[0,3,4,5])]),
 (15,[(0,[1,2,3])]),
 (16,[(0,[2,3]),(2,[2,3,5]),(4,[]),(6,[2,3,6]),(9,[2,3,5]),(19,[2,3,6])]),
 (19,[(0,[9]),(2,[6,9,10,11]),(4,[6,9,10,11]),(6,[6,9,10,11,42,43,44]),(21,[6,9,10,11]),(27,[6,9,10,11,42,43,44])]),
 (20,[(0,[0,6,8,9]),(2,[0,1,6,8,9,10]),(4,[0,8]),(6,[0,6,8,11]),(8,[0,6,8,11]),(10,[0,6,8,11,12]),(12,[0,6,8,11,12]),(14,[0,6,8,11,12,13]),(15,[0,1,6,8,9,10]),(16,[14]),(18,[0,8,14,15]),(29,[0,6,8,11]),(35,[0,6,8,11,12]),(41,[0,6,8,11,12,13]),(55,[0,8,14,15])]),
 (21,[(0,[6]),(2,[4,6,20,21]),(4,[4,6,7,8,20,21]),(6,[4,6,7,8,20,21,24,25,26]),(13,[4,6,20,21]),(21,[4,6,7,8,20,21,24,25,26])]),
 (22,[(0,[6]),(2,[0,4,6,7]),(4,[0,4,6,7,8]),(6,[0,4,6,7,8,9]),(13,[0,4,6,7]),(21,[0,4,6,7,8,9])]),
 (23,[(0,[]),(2,[0,1,5]),(9,[0,1,5])]),
 (24,[(0,[6]),(2,[4,6,22,23,24]),(4,[4,6,9,22,23,24]),(6,[4,6,9,22,23,24,30,31,32]),(13,[4,6,22,23,24]),(21,[4,6,9,22,23,24,30,31,32])]),
 (25,[(0,[]),(2,[1,7,8,9]),(5,[1,7,8,9])]),
 (26,[(0,[6]),(2,[0,6,7,8]),(15,[0,6,7,8])]),
 (27,[(0,[]),(2,[0,11,12]),(4,[0,3,4,11,12]),(5,[0,11,12]),(6,[0,3,4,11,12,19,20,21]),(8,[0,11,12]),(10,[0,3,4,7,11,12]),(12,[0,3,4,7,11,12]),(13,[0,3,4,11,12,19,20,21]),(14,[0,3,4,7,11,12,48,49,50]),(23,[0,3,4,7,11,12]),(33,[0,3,4,7,11,12,48,49,50])]),
 (28,[(0,[1,2,5]),(2,[1,2,5,6]),(4,[5]),(6,[1,2,5,7]),(11,[1,2,5,6]),(23,[1,2,5,7])]),
 (29,[(0,[5]),(2,[0,5,6]),(4,[0,5,6,7]),(6,[0,5,6,7,8]),(13,[0,5,6]),(21,[0,5,6,7,8])]),
 (32,[(0,[]),(2,[0,1,5]),(4,[0,1,5]),(6,[0,1,5,6]),(9,[0,1,5]),(19,[0,1,5,6])]),
 (33,[(0,[]),(2,[0,1,12,13]),(9,[0,1,12,13])]),
 (34,[(0,[6]),(2,[0,4,6]),(4,[0,4,6,7]),(6,[0,4,6,7,8]),(8,[0,4,6,7,8,9]),(10,[0,4,6,7,8,9,10]),(11,[0,4,6]),(17,[0,4,6,7,8]),(25,[0,4,6,7,8,9,10])]),
 (35,[(0,[8]),(2,[0,1,8,19,20,21]),(13,[0,1,8,19,20,21])]),
 (36,[(0,[7]),(2,[0,1,7,8]),(13,[0,1,7,8])]),
 (38,[(0,[]),(2,[0,1,5]),(9,[0,1,5])]),
 (41,[(0,[0,1,4])]),
 (42,[(0,[3,4,8,9,10,11]),(2,[3,4,8,9,10,11,22,23,24]),(7,[3,4,8,9,10,11,22,23,24])]),
 (45,[(0,[]),(2,[0,1,7,8]),(5,[0,1,7,8])]),
 (50,[(0,[]),(2,[0,1,5]),(5,[0,1,5])]),
 (51,[(0,[6]),(2,[6,20,21,22]),(13,[6,20,21,22])]),
 (52,[(0,[3]),(2,[3,6,7,8]),(7,[3,6,7,8])]),
 (53,[(0,[]),(2,[1,5,6,7]),(5,[1,5,6,7])]),
 (56,[(0,[]),(2,[0,5]),(4,[0,5]),(6,[0,5,6]),(11,[0,5]),(17,[0,5,6])]),
 (59,[(0,[]),(2,[3]),(4,[1,3,4,5]),(45,[1,3,4,5])]),
 (60,[(0,[0]),(2,[0,2,4,7]),(13,[0,2,4,7])]),
 (61,[(0,[1,2]),(2,[1,2,13,14,15]),(9,[1,2,13,14,15])]),
 (62,[(0,[2,3,4]),(2,[2,3,4,7]),(4,[]),(6,[2,3,4,8]),(9,[2,3,4,7]),(19,[2,3,4,8])]),
 (63,[(0,[0]),(2,[0,5]),(4,[0,8]),(6,[0,8,9]),(9,[0,5]),(23,[0,8,9])]),
 (69,[(0,[3]),(2,[0,3]),(5,[0,3])]),
 (73,[(0,[])]),
 (74,[(0,[6]),(2,[0,1,5,6]),(4,[0,1,5,6]),(13,[0,1,5,6])]),
 (76,[(0,[0,1,4,5]),(2,[0,4,6])]),
 (81,[(0,[3,4])]),
 (82,[(0,[]),(1,[0,1]),(2,[0,1])]),
 (84,[(0,[]),(2,[0,1,7,8]),(5,[0,1,7,8])]),
 (85,[(0,[]),(2,[0,1,2,3,8,9]),(5,[0,1,2,3,8,9])]),
 (87,[(0,[0]),(2,[0,9,10,11]),(4,[6]),(5,[0,9,10,11]),(6,[6,55,56,57]),(19,[6,55,56,57])]),
 (88,[(0,[]),(2,[]),(4,[1,2,13,14,15]),(6,[]),(7,[1,2,13,14,15]),(8,[1,2,88,89,90]),(41,[1,2,88,89,90])]),
 (91,[(0,[]),(2,[0,1,7,8]),(5,[0,1,7,8])]),
 (92,[(0,[4]),(2,[0,4,5]),(7,[0,4,5])]),
 (93,[(0,[]),(2,[0,1,5]),(5,[0,1,5])]),
 (94,[(0,[])]),
 (95,[(0,[])]),
 (96,[(0,[]),(2,[0,3]),(5,[0,3])]),
 (97,[(0,[]),(2,[1,3]),(9,[1,3])]),
 (101,[(0,[1]),(2,[0,1]),(3,[0,1]),(4,[0,1]),(6,[0,1]),(8,[0,1]),(21,[0,1])]),
 (102,[(0,[2]),(2,[0,2,14,15]),(11,[0,2,14,15])]),
 (104,[(0,[0,1,4])]),
 (105,[(0,[0,4,5]),(2,[0,1,4,5]),(5,[0,1,4,5])]),
 (106,[(0,[]),(2,[0,1,7,8]),(5,[0,1,7,8])]),
 (112,[(0,[4,10]),(2,[2,4,10,72,73,74]),(21,[2,4,10,72,73,74])]),
 (113,[(0,[2,3,4,7])]),
 (115,[(0,[]),(2,[0,1,2,6]),(3,[0,1,2,6]),(4,[0,1,2,6]),(6,[0,1,2,6,7]),(9,[0,1,2,6,7])]),
 (116,[(0,[0,6,7,8]),(2,[0,6,7,8,9]),(4,[]),(6,[0,6,7,10]),(9,[0,6,7,8,9]),(17,[0,6,7,10])]),
 (117,[(0,[]),(2,[0,1,6,7,8,9]),(11,[0,1,6,7,8,9])]),
 (118,[(0,[6,7])]),
 (119,[(0,[]),(2,[0,6,7]),(5,[0,6,7])]),
 (120,[(0,[]),(2,[0,1,2,7,8]),(4,[0,1,2,7,8]),(6,[0,1,2,7,8]),(7,[0,1,2,7,8]),(8,[0,1,2,7,8]),(10,[0,1,2,7,8,9]),(11,[0,1,2,7,8]),(12,[0,1,2,7,8]),(14,[0,1,2,7,8,10]),(29,[0,1,2,7,8,9]),(41,[0,1,2,7,8,10])]),
 (122,[(0,[9]),(2,[0,1,9,10]),(4,[0,1,9,10]),(6,[0,1,9,10]),(7,[0,1,9,10]),(8,[0,1,9,10]),(10,[0,1,9,10]),(11,[0,1,9,10])]),
 (123,[(0,[0,1,10,11]),(2,[0,1,10,11]),(4,[0,1,10,11]),(6,[0,1,10,11]),(7,[0,1,10,11]),(8,[0,1,11]),(10,[0,1,10,11]),(11,[0,1,10,11]),(12,[0,1,10,11]),(14,[0,1,10,11]),(16,[0,1,10,11]),(18,[0,1,10,11]),(27,[0,1,10,11]),(31,[0,1,10,11])]),
 (127,[(0,[]),(2,[0,6,7,8]),(3,[0,6,7,8])]),
 (131,[(0,[0,3]),(2,[0,3,9,10,11]),(4,[6]),(6,[6,25,26,27]),(7,[0,3,9,10,11]),(23,[6,25,26,27])]),
 (132,[(0,[]),(2,[0,1,7,8]),(5,[0,1,7,8])]),
 (134,[(0,[1,5,6])]),
 (137,[(0,[])]),
 (143,[(0,[3]),(2,[0,3]),(5,[0,3])]),
 (144,[(0,[4,5]),(2,[0,1,4,5]),(5,[0,1,4,5])]),
 (145,[(0,[2]),(2,[0,2,3]),(11,[0,2,3])]),
 (149,[(0,[1,2,4]),(2,[1,2,4]),(5,[1,2,4])]),
 (150,[(0,[2,3,6,7]),(2,[6,7]),(4,[3,6,7,135,136,137]),(69,[3,6,7,135,136,137])]),
 (151,[(0,[3,5,6])]),
 (152,[(0,[]),(2,[0,2,3,8]),(3,[0,2,3,8])]),
 (161,[(0,[])]),
 (163,[(0,[])]),
 (166,[(0,[0,6]),(2,[0,6,7]),(4,[0,6,7]),(6,[0,6,7]),(8,[0,6,7,8,9]),(10,[0,6,7,8,9]),(17,[0,6,7]),(25,[0,6,7]),(37,[0,6,7,8,9])]),
 (167,[(0,[5]),(2,[0,1,5,6]),(7,[0,1,5,6])]),
 (169,[(0,[3]),(2,[1,3,4]),(4,[1,3,4,5,6]),(6,[1,3,4,5,6,7]),(7,[1,3,4]),(17,[1,3,4,5,6,7])]),
 (175,[(0,[4,5]),(2,[0,1,4,5]),(5,[0,1,4,5])]),
 (176,[(0,[]),(2,[0,2,3]),(3,[0,2,3])]),
 (192,[(0,[0,1]),(2,[0,1,5]),(4,[0,1,5,39,40,41]),(6,[8]),(8,[1,8,63,64,65]),(25,[0,1,5,39,40,41]),(45,[1,8,63,64,65])]),
 (196,[(0,[0]),(2,[0,12,13,14]),(4,[0,5,12,13,14]),(6,[0,5,12,13,14,38,39,40]),(7,[0,12,13,14]),(21,[0,5,12,13,14,38,39,40])]),
 (197,[(0,[]),(2,[0,3]),(4,[0,3,4,5,7]),(5,[0,3]),(6,[0,3,4,5,7,8]),(19,[0,3,4,5,7,8])]),
 (201,[(0,[]),(2,[0,1,6,7]),(15,[0,1,6,7])]),
 (203,[(0,[]),(2,[1,2,14,15,16]),(9,[1,2,14,15,16])]),
 (205,[(0,[3,4,5]),(2,[2,3,4,5,10,11,12]),(7,[2,3,4,5,10,11,12])]),
 (210,[(0,[]),(2,[5,6,7]),(5,[5,6,7])]),
 (212,[(0,[6]),(2,[1,6,11,12,13]),(4,[1,6,11,12,13]),(6,[1,6,8,11,12,13,17,18,19]),(7,[1,6,11,12,13]),(13,[1,6,8,11,12,13,17,18,19])]),
 (217,[(0,[])]),
 (218,[(0,[])]),
 (221,[(0,[]),(2,[5,6,7]),(5,[5,6,7])]),
 (226,[(0,[1]),(2,[1,2,13,14,15]),(5,[1,2,13,14,15])]),
 (228,[(0,[1,4]),(2,[1,4,11,12,13]),(4,[4]),(6,[4,26,27,28]),(7,[1,4,11,12,13]),(17,[4,26,27,28])]),
 (230,[(0,[5]),(2,[4,5,13,14,15]),(4,[9]),(6,[8,9,34,35,36]),(9,[4,5,13,14,15]),(31,[8,9,34,35,36])]),
 (233,[(0,[]),(2,[0,1,12,13]),(9,[0,1,12,13])]),
 (234,[(0,[3])]),
 (245,[(0,[]),(2,[0,1,7,8]),(5,[0,1,7,8])]),
 (246,[(0,[]),(2,[0,1,2,3,4,10,11]),(5,[0,1,2,3,4,10,11])]),
 (248,[(0,[]),(2,[0,1]),(3,[0,1])]),
 (250,[(0,[]),(2,[0,1,2,3,8]),(3,[0,1,2,3,8]),(4,[0,1,2,3,8]),(6,[0,1,2,3,8,9]),(9,[0,1,2,3,8,9])]),
 (251,[(0,[0,3,8,9,10]),(2,[0,3,8,9,10,11]),(4,[]),(6,[0,3,8,9,12]),(9,[0,3,8,9,10,11]),(17,[0,3,8,9,12])]),
 (252,[(0,[]),(2,[0,1,8,9,10,11]),(11,[0,1,8,9,10,11])]),
 (253,[(0,[8,9])]),
 (254,[(0,[]),(2,[0,8,9]),(5,[0,8,9])]),
 (255,[(0,[]),(2,[0,1,2,3,9,10]),(4,[0,1,2,3,9,10]),(6,[0,1,2,3,9,10]),(7,[0,1,2,3,9,10]),(8,[0,1,2,3,9,10]),(10,[0,1,2,3,9,10,11]),(11,[0,1,2,3,9,10]),(12,[0,1,2,3,9,10]),(14,[0,1,2,3,9,10,12]),(29,[0,1,2,3,9,10,11]),(41,[0,1,2,3,9,10,12])]),
 (256,[(0,[11]),(2,[0,1,4,11,12]),(4,[0,1,4,11,12]),(6,[0,1,4,11,12]),(7,[0,1,4,11,12]),(8,[0,1,4,11,12]),(10,[0,1,4,11,12]),(11,[0,1,4,11,12])]),
 (257,[(0,[0,1,4,12,13]),(2,[0,1,4,12,13]),(4,[0,1,4,12,13]),(6,[0,1,4,12,13]),(7,[0,1,4,12,13]),(8,[0,1,13]),(10,[0,1,4,12,13]),(11,[0,1,4,12,13]),(12,[0,1,4,12,13]),(14,[0,1,4,12,13]),(16,[0,1,4,12,13]),(18,[0,1,4,12,13]),(27,[0,1,4,12,13]),(31,[0,1,4,12,13])]),
 (259,[(0,[]),(2,[0,2,3,4,10]),(3,[0,2,3,4,10])])]
def live(f key:Nat):List Nat:=match zl ydb f with | some l=>(match zl l key with | some r=>r | none=>[]) | none=>[]
def qd:D:=.agg [.str [45,62],.str [47,92],.str [92,47],.str [40],.str [41],.str [91],.str [93],.str [44],.str [46],.str [58],.str [59],.str [61],.str [92],.str [60],.str [62],.str [64],.str [126],.str [42],.str [48],.str [49]]
def acc:D:=.agg [.int .u8 128,.int .u8 191,.int .u8 160,.int .u8 191,.int .u8 128,.int .u8 159,.int .u8 144,.int .u8 191,.int .u8 128,.int .u8 143,.int .u8 0,.int .u8 0,.int .u8 0,.int .u8 0,.int .u8 0,.int .u8 0,.int .u8 0,.int .u8 0,.int .u8 0,.int .u8 0,.int .u8 0,.int .u8 0,.int .u8 0,.int .u8 0,.int .u8 0,.int .u8 0,.int .u8 0,.int .u8 0,.int .u8 0,.int .u8 0,.int .u8 0,.int .u8 0]
def unW:DataW Unit→List D
 | .lit (.int k n)=>[.int k n]
 | .agg l=>l.map λ d=>match d with | .lit (.int k n)=>.int k n | _=>.nilIface
 | _=>[]
def glob:Nat→Option D
 | 0=>some qd
 | 1=>some (.agg (unW Go.Pinned.utf8First))
 | 2=>some acc
 | _=>none
def big:Nat:=4611686018427387904
def dom(f:Nat)(args:List V):Bool:=
 bif Nat.beq f 101 then (match args with | [.d (.str s),.d (.int .i64 a)]=>decide (s.length≤big)&&(decide (0≤a)&&decide (a≤(s.length:Int))) | _=>true)
 else bif Nat.beq f 201 then (match args with | [.d (.str s),.d (.int .i64 a)]=>decide (s.length≤big)&&(decide (0≤a)&&decide (a<(s.length:Int))) | _=>true)
 else bif Nat.beq f 141 then (match args with | [.d (.str (b::_))]=>decide (128≤b.toNat) | _=>true)
 else bif Nat.beq f 62 then true
 else (match args with | [.d (.str s)]=>decide (s.length≤big) | _=>true)
def flat(f key:Nat):List Nat:=bif Nat.beq f 74&&Nat.beq key 13 then [6,7] else bif (Nat.beq f 144||Nat.beq f 175)&&Nat.beq key 5 then [5,6] else bif Nat.beq f 145&&Nat.beq key 11 then [3] else bif Nat.beq f 105&&Nat.beq key 5 then [5] else []
def own(nt d:Nat):Bool:=(Nat.beq nt 56&&Nat.beq d 9)||(Nat.beq nt 55&&(Nat.beq d 28||Nat.beq d 9))||(Nat.beq nt 23&&Nat.beq d 4)
def thaw(nt d:Nat):Bool:=Nat.beq nt 56&&Nat.beq d 51
def nils(nt t:Nat):Bool:=Nat.beq nt 28&&Nat.beq t 11
def grow(f:Nat):Option Nat:=bif Nat.beq f 165 then some 9 else none
def cx:Cx:={ dom:=dom,P:=Go.Proofs.Tryz.prog,live:=live,glob:=glob,keep:=λ f=>Nat.beq f 75,dfr:=λ f=>Nat.beq f 39||Nat.beq f 42,gives:=λ f=>Nat.beq f 63,pend:=λ f r=>bif Nat.beq f 82&&Nat.beq r 1 then some 5 else none,flat:=flat,bare:=λ nt d=>(Nat.beq nt 129&&Nat.beq d 103)||(Nat.beq nt 42&&Nat.beq d 31),typed:=λ nt d=>Nat.beq nt 89&&(Nat.beq d 53||Nat.beq d 54),tagS:=λ nt d=>bif Nat.beq nt 89&&Nat.beq d 53 then 6 else 0,nat:=nat,own:=own,thaw:=thaw,grow:=grow,nils:=nils }
def zcg(c:Int):Bool:=decide (c=32)||decide (c=9)||decide (c=10)||decide (c=13)
def x9(c:Int):Bool:=(decide (97≤c)&&decide (c≤122))||(decide (65≤c)&&decide (c≤90))||decide (c=95)
def zcf(c:Int):Bool:=decide (48≤c)&&decide (c≤57)
def xe(c:Int):Int:=bif decide (c<128) then 0 else bif decide (194≤c)&&decide (c≤223) then 1 else bif decide (224≤c)&&decide (c≤239) then 2 else bif decide (240≤c)&&decide (c≤244) then 3 else -1
def zaa(c:Int):Int:=bif decide (c<128) then 0 else bif decide (194≤c)&&decide (c≤223) then 128 else bif decide (224≤c)&&decide (c≤239) then 2048 else bif decide (240≤c)&&decide (c≤244) then 65536 else 0
def zt(s p:List UInt8):Bool:=decide (s.take p.length=p)
def zo:xi:=λ _ _ _=>none
theorem xr(cx:Cx):knows cx zo (zj cx):=λ _ _ _ _ _ h=>by cases h
def zjj(f:Nat)(F:List V→Option Out)(S:xi):xi:=λ g args σ=>
 bif Nat.beq g f then (match σ with | []=>(match F args with | some o=>some (o,[]) | none=>none) | _::_=>none) else S g args σ
theorem vd{cx:Cx}{f:Nat}{F:List V→Option Out}{S:xi}(hS:knows cx S (zj cx))(hF:∀ args o,cx.dom f args=true→F args=some o→zj cx f args []=some (o,[])):knows cx (zjj f F S) (zj cx):=by
 intro g args σ r hd h;unfold zjj at h;cases hg:Nat.beq g f <;> rw [hg] at h
 ·exact hS g args σ r hd h
 ·obtain rfl:=pj hg;cases σ with
  | cons a b=>cases h
  | nil=>
   simp only [pw] at h;cases ho:F args with
   | none=>rw [ho] at h; cases h
   | some o=>rw [ho] at h; cases h; exact hF args o hd ho
def zt4(F:Int→Bool):List V→Option Out
 | [.d (.int .u8 c)]=>some (.ret (.d (.bool (F c))))
 | _=>none
theorem zh7{F:Int→Bool}{args:List V}{o:Out}(h:zt4 F args=some o):∃ c,args=[.d (.int .u8 c)]∧o=.ret (.d (.bool (F c))):=by
 unfold zt4 at h;split at h
 ·cases h; exact ⟨_,rfl,rfl⟩
 ·cases h
theorem b16(n:Nat)(S:xi)(c:Int):zn cx S n 198 [.d (.int .u8 c)] []=bif decide (c=(32:Int)) then some (Out.ret (V.d (D.bool true)),[]) else bif decide (c=(9:Int)) then some (Out.ret (V.d (D.bool true)),[]) else bif decide (c=(10:Int)) then some (Out.ret (V.d (D.bool true)),[]) else some (Out.ret (V.d (D.bool (decide (c=(13:Int))))),[]):=by kernel_rfl
theorem b17(n:Nat)(S:xi)(c:Int):zn cx S n 199 [.d (.int .u8 c)] []=bif decide (c=(95:Int)) then some (Out.ret (V.d (D.bool true)),[]) else bif decide ((97:Int)≤c) then bif decide (c≤(122:Int)) then some (Out.ret (V.d (D.bool true)),[]) else bif decide ((65:Int)≤c) then some (Out.ret (V.d (D.bool (decide (c≤(90:Int))))),[]) else some (Out.ret (V.d (D.bool false)),[]) else bif decide ((65:Int)≤c) then some (Out.ret (V.d (D.bool (decide (c≤(90:Int))))),[]) else some (Out.ret (V.d (D.bool false)),[]):=by kernel_rfl
theorem b18(n:Nat)(S:xi)(c:Int):zn cx S n 200 [.d (.int .u8 c)] []=bif decide ((48:Int)≤c) then some (Out.ret (V.d (D.bool (decide (c≤(57:Int))))),[]) else some (Out.ret (V.d (D.bool false)),[]):=by kernel_rfl
theorem b25(n:Nat)(S:xi)(c:Int):zn cx S n 174 [.d (.int .u8 c)] []=bif decide ((97:Int)≤c) then bif decide (c≤(122:Int)) then some (Out.ret (V.d (D.bool true)),[]) else bif decide ((65:Int)≤c) then bif decide (c≤(90:Int)) then some (Out.ret (V.d (D.bool true)),[]) else some (Out.ret (V.d (D.bool (decide (c=(95:Int))))),[]) else some (Out.ret (V.d (D.bool (decide (c=(95:Int))))),[]) else bif decide ((65:Int)≤c) then bif decide (c≤(90:Int)) then some (Out.ret (V.d (D.bool true)),[]) else some (Out.ret (V.d (D.bool (decide (c=(95:Int))))),[]) else some (Out.ret (V.d (D.bool (decide (c=(95:Int))))),[]):=by kernel_rfl
theorem b23(n:Nat)(S:xi)(c:Int):zn cx S n 219 [.d (.int .u8 c)] []=bif decide (c<(128:Int)) then some (Out.ret (V.tup [V.d (D.int .i64 (0:Int)),V.d (D.int .i64 (0:Int))]),[]) else bif decide ((194:Int)≤c) then bif decide (c≤(223:Int)) then some (Out.ret (V.tup [V.d (D.int .i64 (1:Int)),V.d (D.int .i64 (128:Int))]),[]) else bif decide ((224:Int)≤c) then bif decide (c≤(239:Int)) then some (Out.ret (V.tup [V.d (D.int .i64 (2:Int)),V.d (D.int .i64 (2048:Int))]),[]) else bif decide ((240:Int)≤c) then bif decide (c≤(244:Int)) then some (Out.ret (V.tup [V.d (D.int .i64 (3:Int)),V.d (D.int .i64 (65536:Int))]),[]) else some (Out.ret (V.tup [V.d (D.int .i64 (Int.negSucc 0)),V.d (D.int .i64 (0:Int))]),[]) else some (Out.ret (V.tup [V.d (D.int .i64 (Int.negSucc 0)),V.d (D.int .i64 (0:Int))]),[]) else bif decide ((240:Int)≤c) then bif decide (c≤(244:Int)) then some (Out.ret (V.tup [V.d (D.int .i64 (3:Int)),V.d (D.int .i64 (65536:Int))]),[]) else some (Out.ret (V.tup [V.d (D.int .i64 (Int.negSucc 0)),V.d (D.int .i64 (0:Int))]),[]) else some (Out.ret (V.tup [V.d (D.int .i64 (Int.negSucc 0)),V.d (D.int .i64 (0:Int))]),[]) else bif decide ((224:Int)≤c) then bif decide (c≤(239:Int)) then some (Out.ret (V.tup [V.d (D.int .i64 (2:Int)),V.d (D.int .i64 (2048:Int))]),[]) else bif decide ((240:Int)≤c) then bif decide (c≤(244:Int)) then some (Out.ret (V.tup [V.d (D.int .i64 (3:Int)),V.d (D.int .i64 (65536:Int))]),[]) else some (Out.ret (V.tup [V.d (D.int .i64 (Int.negSucc 0)),V.d (D.int .i64 (0:Int))]),[]) else some (Out.ret (V.tup [V.d (D.int .i64 (Int.negSucc 0)),V.d (D.int .i64 (0:Int))]),[]) else bif decide ((240:Int)≤c) then bif decide (c≤(244:Int)) then some (Out.ret (V.tup [V.d (D.int .i64 (3:Int)),V.d (D.int .i64 (65536:Int))]),[]) else some (Out.ret (V.tup [V.d (D.int .i64 (Int.negSucc 0)),V.d (D.int .i64 (0:Int))]),[]) else some (Out.ret (V.tup [V.d (D.int .i64 (Int.negSucc 0)),V.d (D.int .i64 (0:Int))]),[]):=by kernel_rfl
theorem b24(n:Nat)(S:xi)(s p:List UInt8):zn cx S n 173 [.d (.str s),.d (.str p)] []=bif decide ((↑p.length:Int)≤(↑s.length:Int)) then zb (decide ((↑p.length:Int)≤(↑s.length:Int))) (some (Out.ret (V.d (D.bool (decide (List.drop 0 (List.take (↑p.length:Int).toNat s)=p)))),[])) else some (Out.ret (V.d (D.bool false)),[]):=by kernel_rfl
theorem yd3(c:Int):zj cx 198 [.d (.int .u8 c)] []=some (.ret (.d (.bool (zcg c))),[]):=by
 refine wy (N:=0) (xr cx) ?_;rw [b16];unfold zcg;cases decide (c=32) <;> cases decide (c=9) <;> cases decide (c=10) <;> rfl
theorem yd2(c:Int):zj cx 199 [.d (.int .u8 c)] []=some (.ret (.d (.bool (x9 c))),[]):=by
 refine wy (N:=0) (xr cx) ?_;rw [b17];unfold x9;cases decide (c=95) <;> cases decide (97≤c) <;> cases decide (c≤122) <;> cases decide (65≤c) <;> cases decide (c≤90) <;> rfl
theorem yd1(c:Int):zj cx 200 [.d (.int .u8 c)] []=some (.ret (.d (.bool (zcf c))),[]):=by
 refine wy (N:=0) (xr cx) ?_;rw [b18];unfold zcf;cases decide (48≤c) <;> rfl
theorem ydv(c:Int):zj cx 174 [.d (.int .u8 c)] []=some (.ret (.d (.bool (x9 c))),[]):=by
 refine wy (N:=0) (xr cx) ?_;rw [b25];unfold x9;cases decide (c=95) <;> cases decide (97≤c) <;> cases decide (c≤122) <;> cases decide (65≤c) <;> cases decide (c≤90) <;> rfl
theorem ydx(c:Int):zj cx 219 [.d (.int .u8 c)] []=some (.ret (.tup [.d (.int .i64 (xe c)),.d (.int .i64 (zaa c))]),[]):=by
 refine wy (N:=0) (xr cx) ?_;rw [b23];unfold xe zaa;cases decide (c<128) <;> cases decide (194≤c) <;> cases decide (c≤223) <;> cases decide (224≤c) <;> cases decide (c≤239) <;> cases decide (240≤c) <;> cases decide (c≤244) <;> rfl
theorem ydw(s p:List UInt8):zj cx 173 [.d (.str s),.d (.str p)] []=some (.ret (.d (.bool (zt s p))),[]):=by
 refine wy (N:=0) (xr cx) ?_;rw [b24];unfold zt;by_cases h:p.length≤s.length
 ·have h':decide ((p.length:Int)≤s.length)=true:=pa (by omega)
  simp only [h',zb,pw,po,List.drop_zero]
 ·have h':decide ((p.length:Int)≤s.length)=false:=pb (by omega)
  have:decide (s.take p.length=p)=false:=pb λ e=>by
   have:=congrArg List.length e;simp at this;omega
  simp only [h',px,this]
theorem drop_nil{s:List UInt8}{j:Nat}(h:s.drop j=[]):s.length≤j:=by
 have:=congrArg List.length h;simp at this;omega
theorem drop_cons{s r:List UInt8}{b:UInt8}{j:Nat}(h:s.drop j=b::r):j<s.length∧s[j]?=some b∧s.drop (j+1)=r:=by
 have h1:j<s.length:=by
  have:=congrArg List.length h;simp at this;omega
 refine ⟨h1,?_,?_⟩
 ·have:=congrArg (·[0]?) h;simpa using this
 ·rw [←List.drop_drop,h]; rfl
theorem zr9{j:Nat}(h:j≤4611686018427387904):IntKind.i64.wrap ((j:Int)+1)=((j+1:Nat):Int):=by
 rw [IntWalk.i64_in _ (by omega)]; rfl
def z5a:List V→Option Out
 | [.d (.str s),.d (.str p)]=>some (.ret (.d (.bool (zt s p))))
 | _=>none
theorem zsm{args:List V}{o:Out}(h:z5a args=some o):∃ s p,args=[.d (.str s),.d (.str p)]∧o=.ret (.d (.bool (zt s p))):=by
 unfold z5a at h;split at h
 ·cases h; exact ⟨_,_,rfl,rfl⟩
 ·cases h
def S22:xi:=zjj 174 (zt4 x9) zo
def S21:xi:=zjj 173 z5a zo
theorem z3o:knows cx S22 (zj cx):=vd (xr cx) λ args o _ h=>by
 obtain ⟨c,rfl,rfl⟩:=zh7 h;exact ydv c
theorem z3p:knows cx S21 (zj cx):=vd (xr cx) λ args o _ h=>by
 obtain ⟨s,p,rfl,rfl⟩:=zsm h;exact ydw s p
theorem b21(n:Nat)(s p:List UInt8):zn cx S21 n 142 [.d (.str s),.d (.str p)] []=some (Out.ret (V.d (D.bool (zt s p))),[]):=by kernel_rfl
theorem b22(n:Nat)(s:List UInt8):zn cx S22 n 143 [.d (.str s)] []=LP cx S22 n 143 0 2 n [(0,V.d (D.str s)),(3,V.d (D.int .i64 (0:Int)))] [] (AK cx S22 n 143 0 2 (EK cx 143 0)):=by kernel_rfl
theorem l22(n k:Nat)(s:List UInt8)(i:Int):LP cx S22 n 143 0 2 (k+1) [(0,.d (.str s)),(3,.d (.int .i64 i))] [] (AK cx S22 n 143 0 2 (EK cx 143 0))=bif decide (i<(↑s.length:Int)) then zb (decide (0≤i)&&decide (i<(↑s.length:Int))) (zc s[i.toNat]? λ b=>bif x9 (↑b.toNat:Int) then LP cx S22 n 143 0 2 k [(0,V.d (D.str s)),(3,V.d (D.int .i64 (IntKind.i64.wrap (i+(1:Int)))))] [] (AK cx S22 n 143 0 2 (EK cx 143 0)) else bif decide ((0:Int)<i) then zb (decide (0≤i)&&decide (i<(↑s.length:Int))) (zc s[i.toNat]? λ b=>bif decide ((48:Int)≤(↑b.toNat:Int)) then zb (decide (0≤i)&&decide (i<(↑s.length:Int))) (zc s[i.toNat]? λ b=>bif decide ((↑b.toNat:Int)≤(57:Int)) then LP cx S22 n 143 0 2 k [(0,V.d (D.str s)),(3,V.d (D.int .i64 (IntKind.i64.wrap (i+(1:Int)))))] [] (AK cx S22 n 143 0 2 (EK cx 143 0)) else some (Out.ret (V.d (D.int .i64 i)),[])) else some (Out.ret (V.d (D.int .i64 i)),[])) else some (Out.ret (V.d (D.int .i64 i)),[])) else some (Out.ret (V.d (D.int .i64 i)),[]):=by kernel_rfl
theorem ydz(s p:List UInt8):zj cx 142 [.d (.str s),.d (.str p)] []=some (.ret (.d (.bool (zt s p))),[]):=
 wy (N:=0) z3p (b21 0 s p)
def vf:List UInt8→Nat→Nat
 | [],j=>j
 | b::r,j=>bif x9 b.toNat||(decide (0<j)&&zcf b.toNat) then vf r (j+1) else j
def y9(s:List UInt8):Nat:=vf s 0
theorem zs0{s:List UInt8}(hs:s.length≤4611686018427387904)(n:Nat):∀ (r:List UInt8) (j k:Nat),s.drop j=r→j≤s.length→r.length<k →
  LP cx S22 n 143 0 2 k [(0,.d (.str s)),(3,.d (.int .i64 (j:Int)))] [] (AK cx S22 n 143 0 2 (EK cx 143 0))=some (.ret (.d (.int .i64 (vf r j:Nat))),[])
 | [],j,k+1,hr,hj,_=>by
  have:=drop_nil hr;rw [l22,pb (by omega),px]
  rfl
 | b::r,j,k+1,hr,hj,hk=>by
  obtain ⟨h1,h2,h3⟩:=drop_cons hr;have ih:=zs0 hs n r (j+1) k h3 h1 (by simpa using hk)
  have h0:decide ((0:Int)≤(j:Int))=true:=pa (by omega)
  have hlt:decide ((j:Int)<(s.length:Int))=true:=pa (by omega)
  rw [l22];simp only [hlt,h0,zb,pw,Bool.and_self,po,h2,zc,zr9 (show j≤4611686018427387904 by omega),ih,vf,zcf]
  have hz:decide ((0:Int)<(j:Int))=decide (0<j):=by
   by_cases h:0<j
   ·rw [pa h,pa (by omega)]
   ·rw [pb h,pb (by omega)]
  rw [hz];cases x9 b.toNat <;> cases decide (0<j) <;> cases decide ((48:Int)≤(b.toNat:Int)) <;> cases decide ((b.toNat:Int)≤(57:Int)) <;> rfl
theorem ydy(s:List UInt8)(hs:s.length≤4611686018427387904):zj cx 143 [.d (.str s)] []=some (.ret (.d (.int .i64 (y9 s:Nat))),[]):=by
 refine wy (N:=s.length+1) z3o ?_;rw [b22];exact zs0 hs _ s 0 _ rfl (Nat.zero_le _) (by omega)
def S13:xi:=zjj 142 z5a zo
theorem zt7:knows cx S13 (zj cx):=vd (xr cx) λ args o _ h=>by
 obtain ⟨s,p,rfl,rfl⟩:=zsm h;exact ydz s p
theorem b13(n:Nat)(s:List UInt8)(a:Int):zn cx S13 n 101 [.d (.str s),.d (.int .i64 a)] []=LP cx S13 n 101 0 1 n [(0,V.d (D.str s)),(1,V.d (D.int .i64 a))] [] (AK cx S13 n 101 0 1 (EK cx 101 0)):=by kernel_rfl
theorem l13(n k:Nat)(s:List UInt8)(i:Int):LP cx S13 n 101 0 1 (k+1) [(0,.d (.str s)),(1,.d (.int .i64 i))] [] (AK cx S13 n 101 0 1 (EK cx 101 0))=bif decide (i<(↑s.length:Int)) then zb (decide (0≤i)&&decide (i<(↑s.length:Int))) (zc s[i.toNat]? λ b=>bif decide ((↑b.toNat:Int)=(32:Int)) then bif decide ((↑b.toNat:Int)=(32:Int)) then LP cx S13 n 101 0 1 k [(0,V.d (D.str s)),(1,V.d (D.int .i64 (IntKind.i64.wrap (i+(1:Int)))))] [] (AK cx S13 n 101 0 1 (EK cx 101 0)) else bif decide ((↑b.toNat:Int)=(45:Int)) then zb (decide (0≤i)&&decide (i≤(↑s.length:Int))) (bif !zt (List.drop i.toNat (List.take s.length s)) [45,45] then some (Out.ret (V.d (D.int .i64 i)),[]) else LP cx S13 n 101 0 10 n [(0,V.d (D.str s)),(1,V.d (D.int .i64 i))] [] (AL cx S13 n 101 0 1 10 (inK cx S13 n 101 0 1 k (AK cx S13 n 101 0 1 (EK cx 101 0))))) else some (Out.ret (V.d (D.int .i64 i)),[]) else bif decide ((↑b.toNat:Int)=(9:Int)) then bif decide ((↑b.toNat:Int)=(9:Int)) then LP cx S13 n 101 0 1 k [(0,V.d (D.str s)),(1,V.d (D.int .i64 (IntKind.i64.wrap (i+(1:Int)))))] [] (AK cx S13 n 101 0 1 (EK cx 101 0)) else bif decide ((↑b.toNat:Int)=(45:Int)) then zb (decide (0≤i)&&decide (i≤(↑s.length:Int))) (bif !zt (List.drop i.toNat (List.take s.length s)) [45,45] then some (Out.ret (V.d (D.int .i64 i)),[]) else LP cx S13 n 101 0 10 n [(0,V.d (D.str s)),(1,V.d (D.int .i64 i))] [] (AL cx S13 n 101 0 1 10 (inK cx S13 n 101 0 1 k (AK cx S13 n 101 0 1 (EK cx 101 0))))) else some (Out.ret (V.d (D.int .i64 i)),[]) else bif decide ((↑b.toNat:Int)=(10:Int)) then bif decide ((↑b.toNat:Int)=(10:Int)) then LP cx S13 n 101 0 1 k [(0,V.d (D.str s)),(1,V.d (D.int .i64 (IntKind.i64.wrap (i+(1:Int)))))] [] (AK cx S13 n 101 0 1 (EK cx 101 0)) else bif decide ((↑b.toNat:Int)=(45:Int)) then zb (decide (0≤i)&&decide (i≤(↑s.length:Int))) (bif !zt (List.drop i.toNat (List.take s.length s)) [45,45] then some (Out.ret (V.d (D.int .i64 i)),[]) else LP cx S13 n 101 0 10 n [(0,V.d (D.str s)),(1,V.d (D.int .i64 i))] [] (AL cx S13 n 101 0 1 10 (inK cx S13 n 101 0 1 k (AK cx S13 n 101 0 1 (EK cx 101 0))))) else some (Out.ret (V.d (D.int .i64 i)),[]) else bif decide ((↑b.toNat:Int)=(13:Int)) then LP cx S13 n 101 0 1 k [(0,V.d (D.str s)),(1,V.d (D.int .i64 (IntKind.i64.wrap (i+(1:Int)))))] [] (AK cx S13 n 101 0 1 (EK cx 101 0)) else bif decide ((↑b.toNat:Int)=(45:Int)) then zb (decide (0≤i)&&decide (i≤(↑s.length:Int))) (bif !zt (List.drop i.toNat (List.take s.length s)) [45,45] then some (Out.ret (V.d (D.int .i64 i)),[]) else LP cx S13 n 101 0 10 n [(0,V.d (D.str s)),(1,V.d (D.int .i64 i))] [] (AL cx S13 n 101 0 1 10 (inK cx S13 n 101 0 1 k (AK cx S13 n 101 0 1 (EK cx 101 0))))) else some (Out.ret (V.d (D.int .i64 i)),[])) else some (Out.ret (V.d (D.int .i64 i)),[]):=by kernel_rfl
theorem ybm(n k k':Nat)(s:List UInt8)(i:Int):LP cx S13 n 101 0 10 (k+1) [(0,.d (.str s)),(1,.d (.int .i64 i))] [] (AL cx S13 n 101 0 1 10 (inK cx S13 n 101 0 1 k' (AK cx S13 n 101 0 1 (EK cx 101 0))))=bif decide (i<(↑s.length:Int)) then zb (decide (0≤i)&&decide (i<(↑s.length:Int))) (zc s[i.toNat]? λ b=>bif !decide ((↑b.toNat:Int)=(10:Int)) then LP cx S13 n 101 0 10 k [(0,V.d (D.str s)),(1,V.d (D.int .i64 (IntKind.i64.wrap (i+(1:Int)))))] [] (AL cx S13 n 101 0 1 10 (inK cx S13 n 101 0 1 k' (AK cx S13 n 101 0 1 (EK cx 101 0)))) else LP cx S13 n 101 0 1 k' [(0,V.d (D.str s)),(1,V.d (D.int .i64 i))] [] (AK cx S13 n 101 0 1 (EK cx 101 0))) else LP cx S13 n 101 0 1 k' [(0,V.d (D.str s)),(1,V.d (D.int .i64 i))] [] (AK cx S13 n 101 0 1 (EK cx 101 0)):=by kernel_rfl
def xn:Bool→List UInt8→Nat→Nat
 | _,[],j=>j
 | true,b::r,j=>xn (!decide ((b.toNat:Int)=10)) r (j+1)
 | false,b::r,j=>bif zcg b.toNat then xn false r (j+1) else bif decide ((b.toNat:Int)=45)&&zt (b::r) [45,45] then xn true r (j+1) else j
theorem zsq{s:List UInt8}(hs:s.length≤4611686018427387904){n:Nat}(hn:s.length<n):∀ (r:List UInt8) (j:Nat),s.drop j=r→j≤s.length →
  (∀ k,r.length<k→LP cx S13 n 101 0 1 k [(0,.d (.str s)),(1,.d (.int .i64 (j:Int)))] [] (AK cx S13 n 101 0 1 (EK cx 101 0))=some (.ret (.d (.int .i64 (xn false r j:Nat))),[])) ∧
  (∀ k k',r.length<k→r.length<k'→LP cx S13 n 101 0 10 k [(0,.d (.str s)),(1,.d (.int .i64 (j:Int)))] [] (AL cx S13 n 101 0 1 10 (inK cx S13 n 101 0 1 k' (AK cx S13 n 101 0 1 (EK cx 101 0)))) =
   some (.ret (.d (.int .i64 (xn true r j:Nat))),[]))
 | [],j,hr,hj=>by
  have:=drop_nil hr;have hge:decide ((j:Int)<(s.length:Int))=false:=pb (by omega)
  have outer:∀ k,0<k→LP cx S13 n 101 0 1 k [(0,.d (.str s)),(1,.d (.int .i64 (j:Int)))] [] (AK cx S13 n 101 0 1 (EK cx 101 0))=some (.ret (.d (.int .i64 (j:Nat))),[]):=by
   intro k hk;obtain ⟨k,rfl⟩:∃ i,k=i+1:=⟨k - 1,by omega⟩
   rw [l13,hge,px]
  refine ⟨outer,λ k k' hk hk'=>?_⟩;obtain ⟨k,rfl⟩:∃ i,k=i+1:=⟨k - 1,by simp at hk; omega⟩
  rw [ybm,hge,px,outer k' hk'];rfl
 | b::r,j,hr,hj=>by
  obtain ⟨h1,h2,h3⟩:=drop_cons hr;obtain ⟨ih1,ih2⟩:=zsq hs hn r (j+1) h3 h1;have hlen:(b::r).length≤s.length:=by rw [←hr]; simp
  have h0:decide ((0:Int)≤(j:Int))=true:=pa (by omega)
  have hlt:decide ((j:Int)<(s.length:Int))=true:=pa (by omega)
  have hle:decide ((j:Int)≤(s.length:Int))=true:=pa (by omega)
  have hw:=zr9 (show j≤4611686018427387904 by omega)
  have step:∀ k k',((b.toNat:Int)=10)=False→r.length<k'→r.length<k→LP cx S13 n 101 0 10 (k+1) [(0,.d (.str s)),(1,.d (.int .i64 (j:Int)))] [] (AL cx S13 n 101 0 1 10 (inK cx S13 n 101 0 1 k' (AK cx S13 n 101 0 1 (EK cx 101 0)))) =
    some (.ret (.d (.int .i64 (xn true r (j+1):Nat))),[]):=by
   intro k k' hb hk' hk;rw [ybm];simp only [hlt,h0,zb,pw,Bool.and_self,po,h2,zc,hw,hb,decide_false,Bool.not_false];exact ih2 k k' hk hk'
  have outer:∀ k,(b::r).length<k→LP cx S13 n 101 0 1 k [(0,.d (.str s)),(1,.d (.int .i64 (j:Int)))] [] (AK cx S13 n 101 0 1 (EK cx 101 0))=some (.ret (.d (.int .i64 (xn false (b::r) j:Nat))),[]):=by
   intro k hk;obtain ⟨k,rfl⟩:∃ i,k=i+1:=⟨k - 1,by omega⟩
   obtain ⟨m,rfl⟩:∃ i,n=i+1:=⟨n - 1,by omega⟩
   have hk':r.length<k:=by simpa using hk
   rw [l13];simp only [hlt,h0,hle,zb,pw,Bool.and_self,po,h2,zc,hw,ih1 k hk',List.take_length,hr,xn,zcg];by_cases h45:(b.toNat:Int)=45
   ·have e1:decide ((b.toNat:Int)=32)=false:=pb (by omega)
    have e2:decide ((b.toNat:Int)=9)=false:=pb (by omega)
    have e3:decide ((b.toNat:Int)=10)=false:=pb (by omega)
    have e4:decide ((b.toNat:Int)=13)=false:=pb (by omega)
    have e5:decide ((b.toNat:Int)=45)=true:=pa h45;have hin:=step m k (by simp; omega) hk' (by simp at hlen; omega)
    simp only [e1,e2,e3,e4,e5,px,pw,Bool.or_self,Bool.true_and,hin];cases zt (b::r) [45,45] <;> rfl
   ·have e5:decide ((b.toNat:Int)=45)=false:=pb h45;simp only [e5,px,Bool.false_and];cases decide ((b.toNat:Int)=32) <;> cases decide ((b.toNat:Int)=9) <;> cases decide ((b.toNat:Int)=10) <;> cases decide ((b.toNat:Int)=13) <;> rfl
  refine ⟨outer,λ k k' hk hk'=>?_⟩;obtain ⟨k,rfl⟩:∃ i,k=i+1:=⟨k - 1,by omega⟩
  by_cases hb:(b.toNat:Int)=10
  ·rw [ybm];simp only [hlt,h0,zb,pw,Bool.and_self,po,h2,zc,hb,decide_true,Bool.not_true,px];rw [outer k' hk'];simp [xn,zcg,hb]
  ·rw [step k k' (by simp [hb]) (by simp at hk'; omega) (by simpa using hk)]
   simp [xn,hb]
def y7(s:List UInt8)(j:Nat):Nat:=xn false (s.drop j) j
theorem yd6(s:List UInt8)(j:Nat)(hs:s.length≤4611686018427387904)(hj:j≤s.length):zj cx 101 [.d (.str s),.d (.int .i64 (j:Int))] []=some (.ret (.d (.int .i64 (y7 s j:Nat))),[]):=by
 refine wy (N:=s.length+1) zt7 ?_;rw [b13];exact (zsq hs (Nat.lt_succ_self _) (s.drop j) j rfl hj).1 _ (by simp; omega)
def z5g:List V→Option Out
 | [.d (.str s)]=>some (.ret (.d (.int .i64 (y9 s:Nat))))
 | _=>none
theorem zyz{args:List V}{o:Out}(h:z5g args=some o):∃ s,args=[.d (.str s)]∧o=.ret (.d (.int .i64 (y9 s:Nat))):=by
 unfold z5g at h;split at h
 ·cases h; exact ⟨_,rfl,rfl⟩
 ·cases h
def S14:xi:=zjj 143 z5g (zjj 142 z5a zo)
theorem z3r:knows cx S14 (zj cx):=vd zt7 λ args o hd h=>by
 obtain ⟨s,rfl,rfl⟩:=zyz h;exact ydy s (pc hd)
theorem b14(n:Nat)(s:List UInt8):zn cx S14 n 102 [.d (.str s)] []=zb (decide (s.length≤big)) (bif decide ((0:Int)<(↑(y9 s):Int)) then zb (decide ((↑(y9 s):Int)≤(↑s.length:Int))) (some (Out.ret (V.d (D.agg [D.int .i64 (1:Int),D.str (List.drop 0 (List.take (↑(y9 s):Int).toNat s)),D.int .i64 (0:Int)])),[])) else LP cx S14 n 102 0 5 n [(0,V.d (D.str s)),(2,V.ptr 2 0),(14,V.d (D.agg [D.str [45,62],D.str [47,92],D.str [92,47],D.str [40],D.str [41],D.str [91],D.str [93],D.str [44],D.str [46],D.str [58],D.str [59],D.str [61],D.str [92],D.str [60],D.str [62],D.str [64],D.str [126],D.str [42],D.str [48],D.str [49]])),(15,V.d (D.int .i64 (0:Int)))] [(2,Ob.val 3 (V.d (D.agg [D.int .i64 (0:Int),D.str [],D.int .i64 (0:Int)])))] (AK cx S14 n 102 0 5 (EK cx 102 0))):=by kernel_rfl
theorem yeq(n k:Nat)(s:List UInt8):LP cx S14 n 102 0 5 (k+1) [(0,.d (.str s)),(2,.ptr 2 0),(14,.d qd),(15,.d (.int .i64 0))] [(2,.val 3 (.d (.agg [.int .i64 0,.str [],.int .i64 0])))] (AK cx S14 n 102 0 5 (EK cx 102 0))=bif zt s [45,62] then some (Out.ret (V.d (D.agg [D.int .i64 (2:Int),D.str [45,62],D.int .i64 (0:Int)])),[]) else LP cx S14 n 102 0 5 k [(0,V.d (D.str s)),(2,V.ptr 2 0),(14,V.d (D.agg [D.str [45,62],D.str [47,92],D.str [92,47],D.str [40],D.str [41],D.str [91],D.str [93],D.str [44],D.str [46],D.str [58],D.str [59],D.str [61],D.str [92],D.str [60],D.str [62],D.str [64],D.str [126],D.str [42],D.str [48],D.str [49]])),(15,V.d (D.int .i64 (1:Int)))] [(2,Ob.val 3 (V.d (D.agg [D.int .i64 (0:Int),D.str [],D.int .i64 (0:Int)])))] (AK cx S14 n 102 0 5 (EK cx 102 0)):=by kernel_rfl
theorem yep(n k:Nat)(s:List UInt8):LP cx S14 n 102 0 5 (k+1) [(0,.d (.str s)),(2,.ptr 2 0),(14,.d qd),(15,.d (.int .i64 1))] [(2,.val 3 (.d (.agg [.int .i64 0,.str [],.int .i64 0])))] (AK cx S14 n 102 0 5 (EK cx 102 0))=bif zt s [47,92] then some (Out.ret (V.d (D.agg [D.int .i64 (2:Int),D.str [47,92],D.int .i64 (0:Int)])),[]) else LP cx S14 n 102 0 5 k [(0,V.d (D.str s)),(2,V.ptr 2 0),(14,V.d (D.agg [D.str [45,62],D.str [47,92],D.str [92,47],D.str [40],D.str [41],D.str [91],D.str [93],D.str [44],D.str [46],D.str [58],D.str [59],D.str [61],D.str [92],D.str [60],D.str [62],D.str [64],D.str [126],D.str [42],D.str [48],D.str [49]])),(15,V.d (D.int .i64 (2:Int)))] [(2,Ob.val 3 (V.d (D.agg [D.int .i64 (0:Int),D.str [],D.int .i64 (0:Int)])))] (AK cx S14 n 102 0 5 (EK cx 102 0)):=by kernel_rfl
theorem yeo(n k:Nat)(s:List UInt8):LP cx S14 n 102 0 5 (k+1) [(0,.d (.str s)),(2,.ptr 2 0),(14,.d qd),(15,.d (.int .i64 2))] [(2,.val 3 (.d (.agg [.int .i64 0,.str [],.int .i64 0])))] (AK cx S14 n 102 0 5 (EK cx 102 0))=bif zt s [92,47] then some (Out.ret (V.d (D.agg [D.int .i64 (2:Int),D.str [92,47],D.int .i64 (0:Int)])),[]) else LP cx S14 n 102 0 5 k [(0,V.d (D.str s)),(2,V.ptr 2 0),(14,V.d (D.agg [D.str [45,62],D.str [47,92],D.str [92,47],D.str [40],D.str [41],D.str [91],D.str [93],D.str [44],D.str [46],D.str [58],D.str [59],D.str [61],D.str [92],D.str [60],D.str [62],D.str [64],D.str [126],D.str [42],D.str [48],D.str [49]])),(15,V.d (D.int .i64 (3:Int)))] [(2,Ob.val 3 (V.d (D.agg [D.int .i64 (0:Int),D.str [],D.int .i64 (0:Int)])))] (AK cx S14 n 102 0 5 (EK cx 102 0)):=by kernel_rfl
theorem yen(n k:Nat)(s:List UInt8):LP cx S14 n 102 0 5 (k+1) [(0,.d (.str s)),(2,.ptr 2 0),(14,.d qd),(15,.d (.int .i64 3))] [(2,.val 3 (.d (.agg [.int .i64 0,.str [],.int .i64 0])))] (AK cx S14 n 102 0 5 (EK cx 102 0))=bif zt s [40] then some (Out.ret (V.d (D.agg [D.int .i64 (2:Int),D.str [40],D.int .i64 (0:Int)])),[]) else LP cx S14 n 102 0 5 k [(0,V.d (D.str s)),(2,V.ptr 2 0),(14,V.d (D.agg [D.str [45,62],D.str [47,92],D.str [92,47],D.str [40],D.str [41],D.str [91],D.str [93],D.str [44],D.str [46],D.str [58],D.str [59],D.str [61],D.str [92],D.str [60],D.str [62],D.str [64],D.str [126],D.str [42],D.str [48],D.str [49]])),(15,V.d (D.int .i64 (4:Int)))] [(2,Ob.val 3 (V.d (D.agg [D.int .i64 (0:Int),D.str [],D.int .i64 (0:Int)])))] (AK cx S14 n 102 0 5 (EK cx 102 0)):=by kernel_rfl
theorem yem(n k:Nat)(s:List UInt8):LP cx S14 n 102 0 5 (k+1) [(0,.d (.str s)),(2,.ptr 2 0),(14,.d qd),(15,.d (.int .i64 4))] [(2,.val 3 (.d (.agg [.int .i64 0,.str [],.int .i64 0])))] (AK cx S14 n 102 0 5 (EK cx 102 0))=bif zt s [41] then some (Out.ret (V.d (D.agg [D.int .i64 (2:Int),D.str [41],D.int .i64 (0:Int)])),[]) else LP cx S14 n 102 0 5 k [(0,V.d (D.str s)),(2,V.ptr 2 0),(14,V.d (D.agg [D.str [45,62],D.str [47,92],D.str [92,47],D.str [40],D.str [41],D.str [91],D.str [93],D.str [44],D.str [46],D.str [58],D.str [59],D.str [61],D.str [92],D.str [60],D.str [62],D.str [64],D.str [126],D.str [42],D.str [48],D.str [49]])),(15,V.d (D.int .i64 (5:Int)))] [(2,Ob.val 3 (V.d (D.agg [D.int .i64 (0:Int),D.str [],D.int .i64 (0:Int)])))] (AK cx S14 n 102 0 5 (EK cx 102 0)):=by kernel_rfl
theorem yel(n k:Nat)(s:List UInt8):LP cx S14 n 102 0 5 (k+1) [(0,.d (.str s)),(2,.ptr 2 0),(14,.d qd),(15,.d (.int .i64 5))] [(2,.val 3 (.d (.agg [.int .i64 0,.str [],.int .i64 0])))] (AK cx S14 n 102 0 5 (EK cx 102 0))=bif zt s [91] then some (Out.ret (V.d (D.agg [D.int .i64 (2:Int),D.str [91],D.int .i64 (0:Int)])),[]) else LP cx S14 n 102 0 5 k [(0,V.d (D.str s)),(2,V.ptr 2 0),(14,V.d (D.agg [D.str [45,62],D.str [47,92],D.str [92,47],D.str [40],D.str [41],D.str [91],D.str [93],D.str [44],D.str [46],D.str [58],D.str [59],D.str [61],D.str [92],D.str [60],D.str [62],D.str [64],D.str [126],D.str [42],D.str [48],D.str [49]])),(15,V.d (D.int .i64 (6:Int)))] [(2,Ob.val 3 (V.d (D.agg [D.int .i64 (0:Int),D.str [],D.int .i64 (0:Int)])))] (AK cx S14 n 102 0 5 (EK cx 102 0)):=by kernel_rfl
theorem yek(n k:Nat)(s:List UInt8):LP cx S14 n 102 0 5 (k+1) [(0,.d (.str s)),(2,.ptr 2 0),(14,.d qd),(15,.d (.int .i64 6))] [(2,.val 3 (.d (.agg [.int .i64 0,.str [],.int .i64 0])))] (AK cx S14 n 102 0 5 (EK cx 102 0))=bif zt s [93] then some (Out.ret (V.d (D.agg [D.int .i64 (2:Int),D.str [93],D.int .i64 (0:Int)])),[]) else LP cx S14 n 102 0 5 k [(0,V.d (D.str s)),(2,V.ptr 2 0),(14,V.d (D.agg [D.str [45,62],D.str [47,92],D.str [92,47],D.str [40],D.str [41],D.str [91],D.str [93],D.str [44],D.str [46],D.str [58],D.str [59],D.str [61],D.str [92],D.str [60],D.str [62],D.str [64],D.str [126],D.str [42],D.str [48],D.str [49]])),(15,V.d (D.int .i64 (7:Int)))] [(2,Ob.val 3 (V.d (D.agg [D.int .i64 (0:Int),D.str [],D.int .i64 (0:Int)])))] (AK cx S14 n 102 0 5 (EK cx 102 0)):=by kernel_rfl
theorem yej(n k:Nat)(s:List UInt8):LP cx S14 n 102 0 5 (k+1) [(0,.d (.str s)),(2,.ptr 2 0),(14,.d qd),(15,.d (.int .i64 7))] [(2,.val 3 (.d (.agg [.int .i64 0,.str [],.int .i64 0])))] (AK cx S14 n 102 0 5 (EK cx 102 0))=bif zt s [44] then some (Out.ret (V.d (D.agg [D.int .i64 (2:Int),D.str [44],D.int .i64 (0:Int)])),[]) else LP cx S14 n 102 0 5 k [(0,V.d (D.str s)),(2,V.ptr 2 0),(14,V.d (D.agg [D.str [45,62],D.str [47,92],D.str [92,47],D.str [40],D.str [41],D.str [91],D.str [93],D.str [44],D.str [46],D.str [58],D.str [59],D.str [61],D.str [92],D.str [60],D.str [62],D.str [64],D.str [126],D.str [42],D.str [48],D.str [49]])),(15,V.d (D.int .i64 (8:Int)))] [(2,Ob.val 3 (V.d (D.agg [D.int .i64 (0:Int),D.str [],D.int .i64 (0:Int)])))] (AK cx S14 n 102 0 5 (EK cx 102 0)):=by kernel_rfl
theorem yei(n k:Nat)(s:List UInt8):LP cx S14 n 102 0 5 (k+1) [(0,.d (.str s)),(2,.ptr 2 0),(14,.d qd),(15,.d (.int .i64 8))] [(2,.val 3 (.d (.agg [.int .i64 0,.str [],.int .i64 0])))] (AK cx S14 n 102 0 5 (EK cx 102 0))=bif zt s [46] then some (Out.ret (V.d (D.agg [D.int .i64 (2:Int),D.str [46],D.int .i64 (0:Int)])),[]) else LP cx S14 n 102 0 5 k [(0,V.d (D.str s)),(2,V.ptr 2 0),(14,V.d (D.agg [D.str [45,62],D.str [47,92],D.str [92,47],D.str [40],D.str [41],D.str [91],D.str [93],D.str [44],D.str [46],D.str [58],D.str [59],D.str [61],D.str [92],D.str [60],D.str [62],D.str [64],D.str [126],D.str [42],D.str [48],D.str [49]])),(15,V.d (D.int .i64 (9:Int)))] [(2,Ob.val 3 (V.d (D.agg [D.int .i64 (0:Int),D.str [],D.int .i64 (0:Int)])))] (AK cx S14 n 102 0 5 (EK cx 102 0)):=by kernel_rfl
theorem yeh(n k:Nat)(s:List UInt8):LP cx S14 n 102 0 5 (k+1) [(0,.d (.str s)),(2,.ptr 2 0),(14,.d qd),(15,.d (.int .i64 9))] [(2,.val 3 (.d (.agg [.int .i64 0,.str [],.int .i64 0])))] (AK cx S14 n 102 0 5 (EK cx 102 0))=bif zt s [58] then some (Out.ret (V.d (D.agg [D.int .i64 (2:Int),D.str [58],D.int .i64 (0:Int)])),[]) else LP cx S14 n 102 0 5 k [(0,V.d (D.str s)),(2,V.ptr 2 0),(14,V.d (D.agg [D.str [45,62],D.str [47,92],D.str [92,47],D.str [40],D.str [41],D.str [91],D.str [93],D.str [44],D.str [46],D.str [58],D.str [59],D.str [61],D.str [92],D.str [60],D.str [62],D.str [64],D.str [126],D.str [42],D.str [48],D.str [49]])),(15,V.d (D.int .i64 (10:Int)))] [(2,Ob.val 3 (V.d (D.agg [D.int .i64 (0:Int),D.str [],D.int .i64 (0:Int)])))] (AK cx S14 n 102 0 5 (EK cx 102 0)):=by kernel_rfl
theorem ybl(n k:Nat)(s:List UInt8):LP cx S14 n 102 0 5 (k+1) [(0,.d (.str s)),(2,.ptr 2 0),(14,.d qd),(15,.d (.int .i64 10))] [(2,.val 3 (.d (.agg [.int .i64 0,.str [],.int .i64 0])))] (AK cx S14 n 102 0 5 (EK cx 102 0))=bif zt s [59] then some (Out.ret (V.d (D.agg [D.int .i64 (2:Int),D.str [59],D.int .i64 (0:Int)])),[]) else LP cx S14 n 102 0 5 k [(0,V.d (D.str s)),(2,V.ptr 2 0),(14,V.d (D.agg [D.str [45,62],D.str [47,92],D.str [92,47],D.str [40],D.str [41],D.str [91],D.str [93],D.str [44],D.str [46],D.str [58],D.str [59],D.str [61],D.str [92],D.str [60],D.str [62],D.str [64],D.str [126],D.str [42],D.str [48],D.str [49]])),(15,V.d (D.int .i64 (11:Int)))] [(2,Ob.val 3 (V.d (D.agg [D.int .i64 (0:Int),D.str [],D.int .i64 (0:Int)])))] (AK cx S14 n 102 0 5 (EK cx 102 0)):=by kernel_rfl
theorem ybk(n k:Nat)(s:List UInt8):LP cx S14 n 102 0 5 (k+1) [(0,.d (.str s)),(2,.ptr 2 0),(14,.d qd),(15,.d (.int .i64 11))] [(2,.val 3 (.d (.agg [.int .i64 0,.str [],.int .i64 0])))] (AK cx S14 n 102 0 5 (EK cx 102 0))=bif zt s [61] then some (Out.ret (V.d (D.agg [D.int .i64 (2:Int),D.str [61],D.int .i64 (0:Int)])),[]) else LP cx S14 n 102 0 5 k [(0,V.d (D.str s)),(2,V.ptr 2 0),(14,V.d (D.agg [D.str [45,62],D.str [47,92],D.str [92,47],D.str [40],D.str [41],D.str [91],D.str [93],D.str [44],D.str [46],D.str [58],D.str [59],D.str [61],D.str [92],D.str [60],D.str [62],D.str [64],D.str [126],D.str [42],D.str [48],D.str [49]])),(15,V.d (D.int .i64 (12:Int)))] [(2,Ob.val 3 (V.d (D.agg [D.int .i64 (0:Int),D.str [],D.int .i64 (0:Int)])))] (AK cx S14 n 102 0 5 (EK cx 102 0)):=by kernel_rfl
theorem ybj(n k:Nat)(s:List UInt8):LP cx S14 n 102 0 5 (k+1) [(0,.d (.str s)),(2,.ptr 2 0),(14,.d qd),(15,.d (.int .i64 12))] [(2,.val 3 (.d (.agg [.int .i64 0,.str [],.int .i64 0])))] (AK cx S14 n 102 0 5 (EK cx 102 0))=bif zt s [92] then some (Out.ret (V.d (D.agg [D.int .i64 (2:Int),D.str [92],D.int .i64 (0:Int)])),[]) else LP cx S14 n 102 0 5 k [(0,V.d (D.str s)),(2,V.ptr 2 0),(14,V.d (D.agg [D.str [45,62],D.str [47,92],D.str [92,47],D.str [40],D.str [41],D.str [91],D.str [93],D.str [44],D.str [46],D.str [58],D.str [59],D.str [61],D.str [92],D.str [60],D.str [62],D.str [64],D.str [126],D.str [42],D.str [48],D.str [49]])),(15,V.d (D.int .i64 (13:Int)))] [(2,Ob.val 3 (V.d (D.agg [D.int .i64 (0:Int),D.str [],D.int .i64 (0:Int)])))] (AK cx S14 n 102 0 5 (EK cx 102 0)):=by kernel_rfl
theorem ybi(n k:Nat)(s:List UInt8):LP cx S14 n 102 0 5 (k+1) [(0,.d (.str s)),(2,.ptr 2 0),(14,.d qd),(15,.d (.int .i64 13))] [(2,.val 3 (.d (.agg [.int .i64 0,.str [],.int .i64 0])))] (AK cx S14 n 102 0 5 (EK cx 102 0))=bif zt s [60] then some (Out.ret (V.d (D.agg [D.int .i64 (2:Int),D.str [60],D.int .i64 (0:Int)])),[]) else LP cx S14 n 102 0 5 k [(0,V.d (D.str s)),(2,V.ptr 2 0),(14,V.d (D.agg [D.str [45,62],D.str [47,92],D.str [92,47],D.str [40],D.str [41],D.str [91],D.str [93],D.str [44],D.str [46],D.str [58],D.str [59],D.str [61],D.str [92],D.str [60],D.str [62],D.str [64],D.str [126],D.str [42],D.str [48],D.str [49]])),(15,V.d (D.int .i64 (14:Int)))] [(2,Ob.val 3 (V.d (D.agg [D.int .i64 (0:Int),D.str [],D.int .i64 (0:Int)])))] (AK cx S14 n 102 0 5 (EK cx 102 0)):=by kernel_rfl
theorem ybh(n k:Nat)(s:List UInt8):LP cx S14 n 102 0 5 (k+1) [(0,.d (.str s)),(2,.ptr 2 0),(14,.d qd),(15,.d (.int .i64 14))] [(2,.val 3 (.d (.agg [.int .i64 0,.str [],.int .i64 0])))] (AK cx S14 n 102 0 5 (EK cx 102 0))=bif zt s [62] then some (Out.ret (V.d (D.agg [D.int .i64 (2:Int),D.str [62],D.int .i64 (0:Int)])),[]) else LP cx S14 n 102 0 5 k [(0,V.d (D.str s)),(2,V.ptr 2 0),(14,V.d (D.agg [D.str [45,62],D.str [47,92],D.str [92,47],D.str [40],D.str [41],D.str [91],D.str [93],D.str [44],D.str [46],D.str [58],D.str [59],D.str [61],D.str [92],D.str [60],D.str [62],D.str [64],D.str [126],D.str [42],D.str [48],D.str [49]])),(15,V.d (D.int .i64 (15:Int)))] [(2,Ob.val 3 (V.d (D.agg [D.int .i64 (0:Int),D.str [],D.int .i64 (0:Int)])))] (AK cx S14 n 102 0 5 (EK cx 102 0)):=by kernel_rfl
theorem ybg(n k:Nat)(s:List UInt8):LP cx S14 n 102 0 5 (k+1) [(0,.d (.str s)),(2,.ptr 2 0),(14,.d qd),(15,.d (.int .i64 15))] [(2,.val 3 (.d (.agg [.int .i64 0,.str [],.int .i64 0])))] (AK cx S14 n 102 0 5 (EK cx 102 0))=bif zt s [64] then some (Out.ret (V.d (D.agg [D.int .i64 (2:Int),D.str [64],D.int .i64 (0:Int)])),[]) else LP cx S14 n 102 0 5 k [(0,V.d (D.str s)),(2,V.ptr 2 0),(14,V.d (D.agg [D.str [45,62],D.str [47,92],D.str [92,47],D.str [40],D.str [41],D.str [91],D.str [93],D.str [44],D.str [46],D.str [58],D.str [59],D.str [61],D.str [92],D.str [60],D.str [62],D.str [64],D.str [126],D.str [42],D.str [48],D.str [49]])),(15,V.d (D.int .i64 (16:Int)))] [(2,Ob.val 3 (V.d (D.agg [D.int .i64 (0:Int),D.str [],D.int .i64 (0:Int)])))] (AK cx S14 n 102 0 5 (EK cx 102 0)):=by kernel_rfl
theorem ybf(n k:Nat)(s:List UInt8):LP cx S14 n 102 0 5 (k+1) [(0,.d (.str s)),(2,.ptr 2 0),(14,.d qd),(15,.d (.int .i64 16))] [(2,.val 3 (.d (.agg [.int .i64 0,.str [],.int .i64 0])))] (AK cx S14 n 102 0 5 (EK cx 102 0))=bif zt s [126] then some (Out.ret (V.d (D.agg [D.int .i64 (2:Int),D.str [126],D.int .i64 (0:Int)])),[]) else LP cx S14 n 102 0 5 k [(0,V.d (D.str s)),(2,V.ptr 2 0),(14,V.d (D.agg [D.str [45,62],D.str [47,92],D.str [92,47],D.str [40],D.str [41],D.str [91],D.str [93],D.str [44],D.str [46],D.str [58],D.str [59],D.str [61],D.str [92],D.str [60],D.str [62],D.str [64],D.str [126],D.str [42],D.str [48],D.str [49]])),(15,V.d (D.int .i64 (17:Int)))] [(2,Ob.val 3 (V.d (D.agg [D.int .i64 (0:Int),D.str [],D.int .i64 (0:Int)])))] (AK cx S14 n 102 0 5 (EK cx 102 0)):=by kernel_rfl
theorem ybe(n k:Nat)(s:List UInt8):LP cx S14 n 102 0 5 (k+1) [(0,.d (.str s)),(2,.ptr 2 0),(14,.d qd),(15,.d (.int .i64 17))] [(2,.val 3 (.d (.agg [.int .i64 0,.str [],.int .i64 0])))] (AK cx S14 n 102 0 5 (EK cx 102 0))=bif zt s [42] then some (Out.ret (V.d (D.agg [D.int .i64 (2:Int),D.str [42],D.int .i64 (0:Int)])),[]) else LP cx S14 n 102 0 5 k [(0,V.d (D.str s)),(2,V.ptr 2 0),(14,V.d (D.agg [D.str [45,62],D.str [47,92],D.str [92,47],D.str [40],D.str [41],D.str [91],D.str [93],D.str [44],D.str [46],D.str [58],D.str [59],D.str [61],D.str [92],D.str [60],D.str [62],D.str [64],D.str [126],D.str [42],D.str [48],D.str [49]])),(15,V.d (D.int .i64 (18:Int)))] [(2,Ob.val 3 (V.d (D.agg [D.int .i64 (0:Int),D.str [],D.int .i64 (0:Int)])))] (AK cx S14 n 102 0 5 (EK cx 102 0)):=by kernel_rfl
theorem ybd(n k:Nat)(s:List UInt8):LP cx S14 n 102 0 5 (k+1) [(0,.d (.str s)),(2,.ptr 2 0),(14,.d qd),(15,.d (.int .i64 18))] [(2,.val 3 (.d (.agg [.int .i64 0,.str [],.int .i64 0])))] (AK cx S14 n 102 0 5 (EK cx 102 0))=bif zt s [48] then some (Out.ret (V.d (D.agg [D.int .i64 (2:Int),D.str [48],D.int .i64 (0:Int)])),[]) else LP cx S14 n 102 0 5 k [(0,V.d (D.str s)),(2,V.ptr 2 0),(14,V.d (D.agg [D.str [45,62],D.str [47,92],D.str [92,47],D.str [40],D.str [41],D.str [91],D.str [93],D.str [44],D.str [46],D.str [58],D.str [59],D.str [61],D.str [92],D.str [60],D.str [62],D.str [64],D.str [126],D.str [42],D.str [48],D.str [49]])),(15,V.d (D.int .i64 (19:Int)))] [(2,Ob.val 3 (V.d (D.agg [D.int .i64 (0:Int),D.str [],D.int .i64 (0:Int)])))] (AK cx S14 n 102 0 5 (EK cx 102 0)):=by kernel_rfl
theorem ybc(n k:Nat)(s:List UInt8):LP cx S14 n 102 0 5 (k+1) [(0,.d (.str s)),(2,.ptr 2 0),(14,.d qd),(15,.d (.int .i64 19))] [(2,.val 3 (.d (.agg [.int .i64 0,.str [],.int .i64 0])))] (AK cx S14 n 102 0 5 (EK cx 102 0))=bif zt s [49] then some (Out.ret (V.d (D.agg [D.int .i64 (2:Int),D.str [49],D.int .i64 (0:Int)])),[]) else LP cx S14 n 102 0 5 k [(0,V.d (D.str s)),(2,V.ptr 2 0),(14,V.d (D.agg [D.str [45,62],D.str [47,92],D.str [92,47],D.str [40],D.str [41],D.str [91],D.str [93],D.str [44],D.str [46],D.str [58],D.str [59],D.str [61],D.str [92],D.str [60],D.str [62],D.str [64],D.str [126],D.str [42],D.str [48],D.str [49]])),(15,V.d (D.int .i64 (20:Int)))] [(2,Ob.val 3 (V.d (D.agg [D.int .i64 (0:Int),D.str [],D.int .i64 (0:Int)])))] (AK cx S14 n 102 0 5 (EK cx 102 0)):=by kernel_rfl
theorem ybb(n k:Nat)(s:List UInt8):LP cx S14 n 102 0 5 (k+1) [(0,.d (.str s)),(2,.ptr 2 0),(14,.d qd),(15,.d (.int .i64 20))] [(2,.val 3 (.d (.agg [.int .i64 0,.str [],.int .i64 0])))] (AK cx S14 n 102 0 5 (EK cx 102 0))=some (Out.ret (V.d (D.agg [D.int .i64 (0:Int),D.str [],D.int .i64 (0:Int)])),[]):=by kernel_rfl
def zel:List (List UInt8):=[[45,62],[47,92],[92,47],[40],[41],[91],[93],[44],[46],[58],[59],[61],[92],[60],[62],[64],[126],[42],[48],[49]]
def yr(s:List UInt8):List (List UInt8)→Int×List UInt8
 | []=>(0,[])
 | x::r=>bif zt s x then (2,x) else yr s r
def yy(s:List UInt8):Int×List UInt8:=bif decide (0<y9 s) then (1,s.take (y9 s)) else yr s zel
theorem zm1:∀ (r:List UInt8) (j:Nat),vf r j≤j+r.length
 | [],j=>by simp [vf]
 | b::r,j=>by
  simp only [vf];cases (x9 b.toNat||(decide (0<j)&&zcf b.toNat))
  ·simp
  ·have:=zm1 r (j+1);simp only [pw,py];omega
theorem zkr(s:List UInt8):y9 s≤s.length:=by simpa [y9] using zm1 s 0
def yas(p:Int×List UInt8):Option (Out×St):=some (.ret (.d (.agg [.int .i64 p.1,.str p.2,.int .i64 0])),[])
theorem z5c(s:List UInt8):LP cx S14 21 102 0 5 21 [(0,.d (.str s)),(2,.ptr 2 0),(14,.d qd),(15,.d (.int .i64 0))] [(2,.val 3 (.d (.agg [.int .i64 0,.str [],.int .i64 0])))] (AK cx S14 21 102 0 5 (EK cx 102 0)) =
  yas (yr s zel):=by
 unfold zel;refine (yeq 21 20 s).trans ?_;unfold yr;cases zt s [45,62]
 case true=>rfl
 simp only [px];refine (yep 21 19 s).trans ?_;unfold yr;cases zt s [47,92]
 case true=>rfl
 simp only [px];refine (yeo 21 18 s).trans ?_;unfold yr;cases zt s [92,47]
 case true=>rfl
 simp only [px];refine (yen 21 17 s).trans ?_;unfold yr;cases zt s [40]
 case true=>rfl
 simp only [px];refine (yem 21 16 s).trans ?_;unfold yr;cases zt s [41]
 case true=>rfl
 simp only [px];refine (yel 21 15 s).trans ?_;unfold yr;cases zt s [91]
 case true=>rfl
 simp only [px];refine (yek 21 14 s).trans ?_;unfold yr;cases zt s [93]
 case true=>rfl
 simp only [px];refine (yej 21 13 s).trans ?_;unfold yr;cases zt s [44]
 case true=>rfl
 simp only [px];refine (yei 21 12 s).trans ?_;unfold yr;cases zt s [46]
 case true=>rfl
 simp only [px];refine (yeh 21 11 s).trans ?_;unfold yr;cases zt s [58]
 case true=>rfl
 simp only [px];refine (ybl 21 10 s).trans ?_;unfold yr;cases zt s [59]
 case true=>rfl
 simp only [px];refine (ybk 21 9 s).trans ?_;unfold yr;cases zt s [61]
 case true=>rfl
 simp only [px];refine (ybj 21 8 s).trans ?_;unfold yr;cases zt s [92]
 case true=>rfl
 simp only [px];refine (ybi 21 7 s).trans ?_;unfold yr;cases zt s [60]
 case true=>rfl
 simp only [px];refine (ybh 21 6 s).trans ?_;unfold yr;cases zt s [62]
 case true=>rfl
 simp only [px];refine (ybg 21 5 s).trans ?_;unfold yr;cases zt s [64]
 case true=>rfl
 simp only [px];refine (ybf 21 4 s).trans ?_;unfold yr;cases zt s [126]
 case true=>rfl
 simp only [px];refine (ybe 21 3 s).trans ?_;unfold yr;cases zt s [42]
 case true=>rfl
 simp only [px];refine (ybd 21 2 s).trans ?_;unfold yr;cases zt s [48]
 case true=>rfl
 simp only [px];refine (ybc 21 1 s).trans ?_;unfold yr;cases zt s [49]
 case true=>rfl
 simp only [px];exact ybb 21 0 s
theorem yd5(s:List UInt8)(hs:s.length≤4611686018427387904):zj cx 102 [.d (.str s)] []=some (.ret (.d (.agg [.int .i64 (yy s).1,.str (yy s).2,.int .i64 0])),[]):=by
 refine wy (N:=21) z3r ?_;rw [b14];have h1:decide (s.length≤big)=true:=pa hs;simp only [h1,zb,pw];unfold yy;have hle:=zkr s;by_cases h:0<y9 s
 ·have e1:decide ((0:Int)<((y9 s:Nat):Int))=true:=pa (by omega)
  have e2:decide (((y9 s:Nat):Int)≤(s.length:Int))=true:=pa (by omega)
  have e3:decide (0<y9 s)=true:=pa h;simp only [e1,e2,e3,pw,List.drop_zero,po]
 ·have e1:decide ((0:Int)<((y9 s:Nat):Int))=false:=pb (by omega)
  have e3:decide (0<y9 s)=false:=pb h;simp only [e1,e3,px];exact z5c s
theorem zd7:∀ (r:List UInt8) (c:Bool) (j:Nat),j≤xn c r j∧xn c r j≤j+r.length
 | [],c,j=>by cases c <;> simp [xn]
 | b::r,true,j=>by
  have:=zd7 r (!decide ((b.toNat:Int)=10)) (j+1);simp only [xn,py];omega
 | b::r,false,j=>by
  have h1:=zd7 r false (j+1);have h2:=zd7 r true (j+1);simp only [xn,py];cases zcg b.toNat
  ·simp only [px];cases (decide ((b.toNat:Int)=45)&&zt (b::r) [45,45])
   ·simp
   ·simp only [pw]; omega
  ·simp only [pw]; omega
theorem zbq{s:List UInt8}{j:Nat}(hj:j≤s.length):j≤y7 s j∧y7 s j≤s.length:=by
 have:=zd7 (s.drop j) false j;unfold y7;simp at this;omega
theorem zo3(s:List UInt8):∀ (l:List (List UInt8)),(yr s l).2=s.take (yr s l).2.length
 | []=>by simp [yr]
 | x::l=>by
  simp only [yr];cases h:zt s x
  ·exact zo3 s l
  ·simp only [pw];exact (pc h).symm
theorem z00(s:List UInt8):(yy s).2=s.take (yy s).2.length:=by
 unfold yy;by_cases h:0<y9 s
 ·rw [pa h,pw];have:=zkr s;simp [List.length_take,Nat.min_eq_left this]
 ·rw [pb h,px];exact zo3 s _
theorem zun(s:List UInt8):(yy s).2.length≤s.length:=by
 have:=congrArg List.length (z00 s);rw [List.length_take] at this;omega
def yv(b:UInt8):Bool:=decide (128≤b.toNat)&&decide (b.toNat≤191)
def yc:List UInt8→Nat
 | []=>0
 | b::r=>
  bif decide (b.toNat<128) then 1
  else bif decide (194≤b.toNat)&&decide (b.toNat≤223) then
   (match r with | c::_=>bif yv c then 2 else 0 | []=>0)
  else bif decide (224≤b.toNat)&&decide (b.toNat≤239) then
   (match r with
    | c::d::_=>bif decide ((bif decide (b.toNat=224) then 160 else 128)≤c.toNat)&&decide (c.toNat≤(bif decide (b.toNat=237) then 159 else 191))&&yv d then 3 else 0
    | _=>0)
  else bif decide (240≤b.toNat)&&decide (b.toNat≤244) then
   (match r with
    | c::d::e::_=>bif decide ((bif decide (b.toNat=240) then 144 else 128)≤c.toNat)&&decide (c.toNat≤(bif decide (b.toNat=244) then 143 else 191))&&yv d&&yv e then 4 else 0
    | _=>0)
  else 0
theorem zyi:∀ (l:List UInt8),yc l≤l.length
 | []=>Nat.le_refl _
 | [b]=>by
  simp only [yc];cases decide (b.toNat<128) <;> cases (decide (194≤b.toNat)&&decide (b.toNat≤223)) <;> cases (decide (224≤b.toNat)&&decide (b.toNat≤239)) <;> cases (decide (240≤b.toNat)&&decide (b.toNat≤244)) <;> simp
 | [b,c]=>by
  simp only [yc];cases decide (b.toNat<128) <;> cases (decide (194≤b.toNat)&&decide (b.toNat≤223)) <;> cases (decide (224≤b.toNat)&&decide (b.toNat≤239)) <;> cases (decide (240≤b.toNat)&&decide (b.toNat≤244)) <;> cases yv c <;> simp
 | [b,c,d]=>by
  simp only [yc]
  cases decide (b.toNat<128) <;> cases (decide (194≤b.toNat)&&decide (b.toNat≤223)) <;> cases (decide (224≤b.toNat)&&decide (b.toNat≤239)) <;> cases (decide (240≤b.toNat)&&decide (b.toNat≤244)) <;> cases yv c <;>
   simp only [pw,px] <;> (try split) <;> simp_all <;> (first | omega | (rw [Bool.cond_eq_ite]; split <;> omega))
 | b::c::d::e::r=>by
  have h:yc (b::c::d::e::r)≤4:=by
   simp only [yc]
   cases decide (b.toNat<128) <;> cases (decide (194≤b.toNat)&&decide (b.toNat≤223)) <;> cases (decide (224≤b.toNat)&&decide (b.toNat≤239)) <;> cases (decide (240≤b.toNat)&&decide (b.toNat≤244)) <;> cases yv c <;>
    simp only [pw,px] <;> (first | omega | (rw [Bool.cond_eq_ite]; split <;> omega))
  simp only [py];omega
def qq(s:List UInt8):Int×Int:=match zj cx 100 [.d (.str s)] [] with | some (.ret (.tup [.d (.int _ r),.d (.int _ n)]),_)=>(r,n) | _=>(0,0)
def yfe:List V→Option Out | [.d (.str s)]=>some (.ret (.tup [.d (.int .i32 (qq s).1),.d (.int .i64 (qq s).2)])) | _=>none
def z9l:List V→Option Out | [.d (.str s),.d (.int .i64 a)]=>some (.ret (.d (.int .i64 (y7 s a.toNat:Nat)))) | _=>none
def yc7:List V→Option Out | [.d (.str s)]=>some (.ret (.d (.agg [.int .i64 (yy s).1,.str (yy s).2,.int .i64 0]))) | _=>none
def S7:xi:=zjj 100 yfe (zjj 101 z9l (zjj 102 yc7 zo))
theorem b7(n:Nat)(s:List UInt8):zn cx S7 n 63 [.d (.str s)] [(0,.tok 0)]=bif decide ((65536:Int)<(↑s.length:Int)) then some (Out.ret (V.tup [V.d (D.sl 3 []),V.d (D.int .i64 (0:Int)),V.d (D.int .i64 (3:Int))]),[(0,Ob.tok 0)]) else LP cx S7 n 63 1 4 n [(0,V.d (D.str s)),(5,V.d (D.int .i64 (0:Int)))] [(0,Ob.tok 0)] (AK cx S7 n 63 1 4 (EK cx 63 1)):=by kernel_rfl
theorem l7a(n k:Nat)(s:List UInt8)(i:Int):LP cx S7 n 63 1 4 (k+1) [(0,.d (.str s)),(5,.d (.int .i64 i))] [(0,.tok 0)] (AK cx S7 n 63 1 4 (EK cx 63 1))=bif decide (i<(↑s.length:Int)) then zb (decide (0≤i)&&decide (i≤(↑s.length:Int))) (zb (decide ((List.drop i.toNat (List.take s.length s)).length≤big)) (bif decide ((qq (List.drop i.toNat (List.take s.length s))).fst=(65533:Int)) then bif decide ((qq (List.drop i.toNat (List.take s.length s))).snd<(2:Int)) then some (Out.ret (V.tup [V.d (D.sl 3 []),V.d (D.int .i64 i),V.d (D.int .i64 (60:Int))]),[(0,Ob.tok 0)]) else LP cx S7 n 63 1 4 k [(0,V.d (D.str s)),(5,V.d (D.int .i64 (IntKind.i64.wrap (i+(qq (List.drop i.toNat (List.take s.length s))).snd))))] [(0,Ob.tok 0)] (AK cx S7 n 63 1 4 (EK cx 63 1)) else LP cx S7 n 63 1 4 k [(0,V.d (D.str s)),(5,V.d (D.int .i64 (IntKind.i64.wrap (i+(qq (List.drop i.toNat (List.take s.length s))).snd))))] [(0,Ob.tok 0)] (AK cx S7 n 63 1 4 (EK cx 63 1)))) else zb (decide (s.length≤big)&&true) (LP cx S7 n 63 1 11 n [(0,V.d (D.str s)),(8,V.sl 3 [] 9),(9,V.d (D.int .i64 (↑(y7 s (0:Int).toNat):Int)))] [(0,Ob.tok 0),(9,Ob.tok 0)] (AK cx S7 n 63 1 11 (EK cx 63 1))):=by kernel_rfl
theorem l7b(n k:Nat)(s:List UInt8)(i:Int)(l:List D):LP cx S7 n 63 1 11 (k+1) [(0,.d (.str s)),(8,.sl 3 l 9),(9,.d (.int .i64 i))] [(0,.tok 0),(9,.tok l.length)] (AK cx S7 n 63 1 11 (EK cx 63 1))=bif decide (i<(↑s.length:Int)) then zb (decide (0≤i)&&decide (i≤(↑s.length:Int))) (zb (decide ((List.drop i.toNat (List.take s.length s)).length≤big)) (bif decide ((yy (List.drop i.toNat (List.take s.length s))).2=[]) then some (Out.ret (V.tup [V.d (D.sl 3 []),V.d (D.int .i64 i),V.d (D.int .i64 (61:Int))]),[(0,Ob.tok 0)]) else zb (decide (l.length=l.length)&&decide (l.length+[D.agg [D.int .i64 (yy (List.drop i.toNat (List.take s.length s))).fst,D.str (yy (List.drop i.toNat (List.take s.length s))).2,D.int .i64 i]].length≤4294967296)) (zb (decide (s.length≤big)&&(decide (0≤IntKind.i64.wrap (i+(↑(yy (List.drop i.toNat (List.take s.length s))).2.length:Int)))&&decide (IntKind.i64.wrap (i+(↑(yy (List.drop i.toNat (List.take s.length s))).2.length:Int))≤(↑s.length:Int)))) (LP cx S7 n 63 1 11 k [(0,V.d (D.str s)),(8,V.sl 3 (l++[D.agg [D.int .i64 (yy (List.drop i.toNat (List.take s.length s))).fst,D.str (yy (List.drop i.toNat (List.take s.length s))).2,D.int .i64 i]]) 9),(9,V.d (D.int .i64 (↑(y7 s (IntKind.i64.wrap (i+(↑(yy (List.drop i.toNat (List.take s.length s))).2.length:Int))).toNat):Int)))] [(0,Ob.tok 0),(9,Ob.tok (l.length+[D.agg [D.int .i64 (yy (List.drop i.toNat (List.take s.length s))).fst,D.str (yy (List.drop i.toNat (List.take s.length s))).2,D.int .i64 i]].length))] (AK cx S7 n 63 1 11 (EK cx 63 1)))))) else zb (decide (l.length=l.length)&&decide (l.length+[D.agg [D.int .i64 (0:Int),D.str [],D.int .i64 (↑s.length:Int)]].length≤4294967296)) (bif decide (l.length+[D.agg [D.int .i64 (0:Int),D.str [],D.int .i64 (↑s.length:Int)]].length=(l++[D.agg [D.int .i64 (0:Int),D.str [],D.int .i64 (↑s.length:Int)]]).length)&&true then some (Out.ret (V.tup [V.sl 3 (l++[D.agg [D.int .i64 (0:Int),D.str [],D.int .i64 (↑s.length:Int)]]) 0,V.d (D.int .i64 (0:Int)),V.d (D.int .i64 (0:Int))]),[(0,Ob.tok (l.length+[D.agg [D.int .i64 (0:Int),D.str [],D.int .i64 (↑s.length:Int)]].length))]) else some (Out.ret (V.tup [V.d (D.sl 3 (l++[D.agg [D.int .i64 (0:Int),D.str [],D.int .i64 (↑s.length:Int)]])),V.d (D.int .i64 (0:Int)),V.d (D.int .i64 (0:Int))]),[(0,Ob.tok 0)])):=by kernel_rfl
def zj8(k:Int)(t:List UInt8)(a:Int):D:=.agg [.int .i64 k,.str t,.int .i64 a]
def zb5:Nat→List UInt8→Nat→List D→List D×Int×Int
 | 0,_,_,_=>([],0,0)
 | f+1,s,j,l=>bif decide (j<s.length) then
   (bif decide ((yy (s.drop j)).2=[]) then ([],j,61)
    else zb5 f s (y7 s (j+(yy (s.drop j)).2.length)) (l++[zj8 (yy (s.drop j)).1 (yy (s.drop j)).2 j]))
  else (l++[zj8 0 [] s.length],0,0)
def ybn(l:List D):V:=match l with | []=>.d (.sl 3 []) | x::r=>.sl 3 (x::r) 0
theorem zw8(l:List D)(x:D):ybn (l++[x])=.sl 3 (l++[x]) 0:=by cases l <;> rfl
def zhd(r:List D×Int×Int):Option (Out×St):=some (.ret (.tup [ybn r.1,.d (.int .i64 r.2.1),.d (.int .i64 r.2.2)]),[(0,.tok r.1.length)])
theorem zml{s:List UInt8}(hs:s.length≤65536)(n:Nat):∀ (f j k:Nat) (l:List D),s.length - j<f→f≤k→j≤s.length→l.length+(s.length - j)≤65536 →
  LP cx S7 n 63 1 11 k [(0,.d (.str s)),(8,.sl 3 l 9),(9,.d (.int .i64 (j:Int)))] [(0,.tok 0),(9,.tok l.length)] (AK cx S7 n 63 1 11 (EK cx 63 1))=zhd (zb5 f s j l)
 | 0,j,k,l,h,_,_,_=>by omega
 | f+1,j,k,l,h,hk,hj,hl=>by
  obtain ⟨k,rfl⟩:∃ i,k=i+1:=⟨k - 1,by omega⟩
  rw [l7b];have hll:decide (l.length=l.length)=true:=pa rfl;by_cases hlt:j<s.length
  ·have e1:decide ((j:Int)<(s.length:Int))=true:=pa (by omega)
   have e2:decide ((0:Int)≤(j:Int))=true:=pa (by omega)
   have e3:decide ((j:Int)≤(s.length:Int))=true:=pa (by omega)
   have e4:decide (j<s.length)=true:=pa hlt;have e5:decide ((s.drop j).length≤big)=true:=pa (by simp [big]; omega)
   have hone:=zun (s.drop j);rw [List.length_drop] at hone;have hw:IntKind.i64.wrap ((j:Int)+((yy (s.drop j)).2.length:Int))=((j+(yy (s.drop j)).2.length:Nat):Int):=by
    rw [IntWalk.i64_in _ (by omega)]; omega
   simp only [e1,e2,e3,zb,pw,Bool.and_self,po,List.take_length,e5,hw,zb5,e4,hll,Bool.true_and];by_cases ht:(yy (s.drop j)).2=[]
   ·rw [pa ht,pw,pw]; rfl
   ·rw [pb ht,px,px];have hpos:0<(yy (s.drop j)).2.length:=List.length_pos_iff.2 ht;have hb:=zbq (s:=s) (j:=j+(yy (s.drop j)).2.length) (by omega)
    have ih:=zml hs n f (y7 s (j+(yy (s.drop j)).2.length)) k (l++[zj8 (yy (s.drop j)).1 (yy (s.drop j)).2 j]) (by omega) (by omega) hb.2 (by simp; omega)
    have e6:decide (l.length+[D.agg [D.int .i64 (yy (s.drop j)).fst,D.str (yy (s.drop j)).2,D.int .i64 (j:Int)]].length≤4294967296)=true:=pa (by simp; omega)
    have e7:decide (s.length≤big)=true:=pa (by simp [big]; omega)
    have e8:decide ((0:Int)≤((j+(yy (s.drop j)).2.length:Nat):Int))=true:=pa (by omega)
    have e9:decide (((j+(yy (s.drop j)).2.length:Nat):Int)≤(s.length:Int))=true:=pa (by omega)
    simp only [e6,e7,e8,e9,pw,Bool.and_self];rw [pe] at ih;exact ih
  ·have e1:decide ((j:Int)<(s.length:Int))=false:=pb (by omega)
   have e4:decide (j<s.length)=false:=pb hlt;have e6:decide (l.length+[D.agg [D.int .i64 (0:Int),D.str [],D.int .i64 (s.length:Int)]].length≤4294967296)=true:=pa (by simp; omega)
   have e8:decide (l.length+[D.agg [D.int .i64 (0:Int),D.str [],D.int .i64 (s.length:Int)]].length=(l++[D.agg [D.int .i64 (0:Int),D.str [],D.int .i64 (s.length:Int)]]).length)=true:=pa (by simp)
   simp only [e1,px,zb5,e4,hll,Bool.true_and,zb,e6,e8,pw,zhd,zj8,zw8];rw [pe,pa trivial];rfl
def qb:Nat→List UInt8→Nat→Option Nat
 | _,[],_=>none
 | 0,_::_,j=>some j
 | f+1,b::r,j=>bif Nat.beq (yc (b::r)) 0 then some j else qb f ((b::r).drop (yc (b::r))) (j+yc (b::r))
def yae:Prop:=∀ l,l ≠ []→(yc l=0→(qq l).1=65533∧(qq l).2<2)∧(yc l ≠ 0→(qq l).2=yc l∧((qq l).2<2→(qq l).1 ≠ 65533))
def z4k(s:List UInt8):Option Nat→Option (Out×St)
 | some p=>zhd ([],p,60)
 | none=>zhd (zb5 (s.length+1) s (y7 s 0) [])
theorem z4j(hdec:yae){s:List UInt8}(hs:s.length≤65536){n:Nat}(hn:s.length<n):∀ (f j k:Nat),s.length - j≤f→f<k→j≤s.length →
  LP cx S7 n 63 1 4 k [(0,.d (.str s)),(5,.d (.int .i64 (j:Int)))] [(0,.tok 0)] (AK cx S7 n 63 1 4 (EK cx 63 1))=z4k s (qb f (s.drop j) j):=by
 intro f
 induction f with
 | zero=>
  intro j k h hk hj;obtain ⟨k,rfl⟩:∃ i,k=i+1:=⟨k - 1,by omega⟩
  have hnil:s.drop j=[]:=List.drop_eq_nil_of_le (by omega)
  have e1:decide ((j:Int)<(s.length:Int))=false:=pb (by omega)
  have e7:decide (s.length≤big)=true:=pa (by simp [big]; omega)
  have hb:=zbq (s:=s) (j:=0) (Nat.zero_le _);rw [l7a,hnil];simp only [e1,px,e7,zb,Bool.and_self,pw,Int.toNat_zero];exact zml hs n (s.length+1) (y7 s 0) n [] (by omega) (by omega) hb.2 (by simp; omega)
 | succ f ih=>
  intro j k h hk hj;obtain ⟨k,rfl⟩:∃ i,k=i+1:=⟨k - 1,by omega⟩
  have e7:decide (s.length≤big)=true:=pa (by simp [big]; omega)
  have hb:=zbq (s:=s) (j:=0) (Nat.zero_le _);rw [l7a];cases hd:s.drop j with
  | nil=>
   have:=drop_nil hd;have e1:decide ((j:Int)<(s.length:Int))=false:=pb (by omega)
   simp only [e1,px,e7,zb,Bool.and_self,pw,Int.toNat_zero];exact zml hs n (s.length+1) (y7 s 0) n [] (by omega) (by omega) hb.2 (by simp; omega)
  | cons b r=>
   obtain ⟨h1,_,_⟩:=drop_cons hd;have e1:decide ((j:Int)<(s.length:Int))=true:=pa (by omega)
   have e2:decide ((0:Int)≤(j:Int))=true:=pa (by omega)
   have e3:decide ((j:Int)≤(s.length:Int))=true:=pa (by omega)
   have hlen:(b::r).length=s.length - j:=by rw [←hd]; simp
   have e5:decide ((b::r).length≤big)=true:=pa (by rw [hlen]; simp [big]; omega)
   obtain ⟨hbad,hgood⟩:=hdec (b::r) (by simp)
   simp only [e1,e2,e3,zb,pw,Bool.and_self,po,List.take_length,hd,e5,qb];by_cases hu:yc (b::r)=0
   ·obtain ⟨g1,g2⟩:=hbad hu;rw [pa g1,pa g2,hu];rfl
   ·obtain ⟨g1,g2⟩:=hgood hu;have hle:=zyi (b::r);have hw:IntKind.i64.wrap ((j:Int)+(qq (b::r)).2)=((j+yc (b::r):Nat):Int):=by
     rw [g1,IntWalk.i64_in _ (by omega)]; omega
    have hbq:Nat.beq (yc (b::r)) 0=false:=zk7 hu;have step:=ih (j+yc (b::r)) k (by omega) (by omega) (by omega)
    rw [←List.drop_drop,hd] at step;simp only [hbq,px,hw];by_cases h65:(qq (b::r)).1=65533
    ·have h2 : ¬ (qq (b::r)).2<2:=λ hlt=>g2 hlt h65;rw [pa h65,pb h2];exact step
    ·rw [pb h65];exact step
def zai(s:List UInt8):List D×Int×Int:=
 bif decide (65536<s.length) then ([],0,3)
 else match qb s.length s 0 with
  | some p=>([],p,60)
  | none=>zb5 (s.length+1) s (y7 s 0) []
def zrj(l:List UInt8):Prop:=∃ r n:Int,zj cx 141 [.d (.str l)] []=some (.ret (.tup [.d (.int .i32 r),.d (.int .i64 n)]),[]) ∧
 (yc l=0→r=65533∧n<2)∧(yc l ≠ 0→n=yc l∧(n<2→r ≠ 65533))
theorem xc{l:List UInt8}(h:zn cx zo 0 141 [.d (.str l)] []=some (.ret (.tup [.d (.int .i32 65533),.d (.int .i64 1)]),[]))(hu:yc l=0):zrj l:=
 ⟨65533,1,wy (N:=0) (xr cx) h,λ _=>⟨rfl,by omega⟩,λ h=>absurd hu h⟩
theorem zhy{l:List UInt8}{r k:Int}(h:zn cx zo 0 141 [.d (.str l)] []=some (.ret (.tup [.d (.int .i32 r),.d (.int .i64 k)]),[]))(hu:k=yc l)(hk:2≤k):zrj l:=
 ⟨r,k,wy (N:=0) (xr cx) h,λ h0=>by omega,λ _=>⟨hu,λ h2=>by omega⟩⟩
theorem len0(b:UInt8)(l:List UInt8):decide ((0:Int)<((b::l).length:Int))=true:=pa (by simp only [py]; omega)
theorem len1(b c:UInt8)(l:List UInt8):decide ((1:Int)<((b::c::l).length:Int))=true:=pa (by simp only [py]; omega)
theorem zaw(b c d:UInt8)(l:List UInt8):decide ((2:Int)<((b::c::d::l).length:Int))=true:=pa (by simp only [py]; omega)
theorem zav(b c d e:UInt8)(l:List UInt8):decide ((3:Int)<((b::c::d::e::l).length:Int))=true:=pa (by simp only [py]; omega)
theorem ge2(b c:UInt8)(l:List UInt8):decide (((b::c::l).length:Int)<(2:Int))=false:=pb (by simp only [py]; omega)
theorem ge3(b c d:UInt8)(l:List UInt8):decide (((b::c::d::l).length:Int)<(3:Int))=false:=pb (by simp only [py]; omega)
theorem ge4(b c d e:UInt8)(l:List UInt8):decide (((b::c::d::e::l).length:Int)<(4:Int))=false:=pb (by simp only [py]; omega)
theorem at1(b c:UInt8)(l:List UInt8):(b::c::l)[(1:Int).toNat]?=some c:=rfl
theorem at2(b c d:UInt8)(l:List UInt8):(b::c::d::l)[(2:Int).toNat]?=some d:=rfl
theorem at3(b c d e:UInt8)(l:List UInt8):(b::c::d::e::l)[(3:Int).toNat]?=some e:=rfl
theorem zkg{c:UInt8}(h1 : ¬ (c.toNat:Int)<128)(h2 : ¬ (191:Int)<(c.toNat:Int)):yv c=true:=by
 unfold yv;rw [pa (by omega),pa (by omega)]; rfl
theorem zc1{c:UInt8}(h:(c.toNat:Int)<128∨(191:Int)<(c.toNat:Int)):yv c=false:=by
 unfold yv;rcases h with h | h
 ·rw [pb (by omega)]; rfl
 ·rw [pb (p:=c.toNat≤191) (by omega),Bool.and_false]
theorem zic(n:Nat)(S:xi)(r:List UInt8):zn cx S n 141 [.d (.str (224::r))] []=zb (decide ((0:Int)<(↑(224::r).length:Int))) (bif decide ((↑(224::r).length:Int)<(3:Int)) then some (Out.ret (V.tup [V.d (D.int IntKind.i32 (65533:Int)),V.d (D.int .i64 (1:Int))]),[]) else zb (decide ((1:Int)<(↑(224::r).length:Int))) (zc (224::r)[(1:Int).toNat]? λ b=>bif decide ((↑b.toNat:Int)<(160:Int)) then some (Out.ret (V.tup [V.d (D.int IntKind.i32 (65533:Int)),V.d (D.int .i64 (1:Int))]),[]) else bif decide ((191:Int)<(↑b.toNat:Int)) then some (Out.ret (V.tup [V.d (D.int IntKind.i32 (65533:Int)),V.d (D.int .i64 (1:Int))]),[]) else zb (decide ((2:Int)<(↑(224::r).length:Int))) (zc (224::r)[(2:Int).toNat]? λ b_1=>bif decide ((↑b_1.toNat:Int)<(128:Int)) then some (Out.ret (V.tup [V.d (D.int IntKind.i32 (65533:Int)),V.d (D.int .i64 (1:Int))]),[]) else bif decide ((191:Int)<(↑b_1.toNat:Int)) then some (Out.ret (V.tup [V.d (D.int IntKind.i32 (65533:Int)),V.d (D.int .i64 (1:Int))]),[]) else some (Out.ret (V.tup [V.d (D.int IntKind.i32 (wl BinOp.or IntKind.i32 (wl BinOp.or IntKind.i32 (0:Int) (IntKind.i32.wrap (IntKind.i32.wrap (wl BinOp.and IntKind.u8 (↑b.toNat:Int) (63:Int)) * 2 ^ min (6:Int).toNat IntKind.i32.bits))) (IntKind.i32.wrap (wl BinOp.and IntKind.u8 (↑b_1.toNat:Int) (63:Int))))),V.d (D.int .i64 (3:Int))]),[])))):=by kernel_rfl
theorem zib(n:Nat)(S:xi)(r:List UInt8):zn cx S n 141 [.d (.str (237::r))] []=zb (decide ((0:Int)<(↑(237::r).length:Int))) (bif decide ((↑(237::r).length:Int)<(3:Int)) then some (Out.ret (V.tup [V.d (D.int IntKind.i32 (65533:Int)),V.d (D.int .i64 (1:Int))]),[]) else zb (decide ((1:Int)<(↑(237::r).length:Int))) (zc (237::r)[(1:Int).toNat]? λ b=>bif decide ((↑b.toNat:Int)<(128:Int)) then some (Out.ret (V.tup [V.d (D.int IntKind.i32 (65533:Int)),V.d (D.int .i64 (1:Int))]),[]) else bif decide ((159:Int)<(↑b.toNat:Int)) then some (Out.ret (V.tup [V.d (D.int IntKind.i32 (65533:Int)),V.d (D.int .i64 (1:Int))]),[]) else zb (decide ((2:Int)<(↑(237::r).length:Int))) (zc (237::r)[(2:Int).toNat]? λ b_1=>bif decide ((↑b_1.toNat:Int)<(128:Int)) then some (Out.ret (V.tup [V.d (D.int IntKind.i32 (65533:Int)),V.d (D.int .i64 (1:Int))]),[]) else bif decide ((191:Int)<(↑b_1.toNat:Int)) then some (Out.ret (V.tup [V.d (D.int IntKind.i32 (65533:Int)),V.d (D.int .i64 (1:Int))]),[]) else some (Out.ret (V.tup [V.d (D.int IntKind.i32 (wl BinOp.or IntKind.i32 (wl BinOp.or IntKind.i32 (53248:Int) (IntKind.i32.wrap (IntKind.i32.wrap (wl BinOp.and IntKind.u8 (↑b.toNat:Int) (63:Int)) * 2 ^ min (6:Int).toNat IntKind.i32.bits))) (IntKind.i32.wrap (wl BinOp.and IntKind.u8 (↑b_1.toNat:Int) (63:Int))))),V.d (D.int .i64 (3:Int))]),[])))):=by kernel_rfl
theorem zea(n:Nat)(S:xi)(r:List UInt8):zn cx S n 141 [.d (.str (240::r))] []=zb (decide ((0:Int)<(↑(240::r).length:Int))) (bif decide ((↑(240::r).length:Int)<(4:Int)) then some (Out.ret (V.tup [V.d (D.int IntKind.i32 (65533:Int)),V.d (D.int .i64 (1:Int))]),[]) else zb (decide ((1:Int)<(↑(240::r).length:Int))) (zc (240::r)[(1:Int).toNat]? λ b=>bif decide ((↑b.toNat:Int)<(144:Int)) then some (Out.ret (V.tup [V.d (D.int IntKind.i32 (65533:Int)),V.d (D.int .i64 (1:Int))]),[]) else bif decide ((191:Int)<(↑b.toNat:Int)) then some (Out.ret (V.tup [V.d (D.int IntKind.i32 (65533:Int)),V.d (D.int .i64 (1:Int))]),[]) else zb (decide ((2:Int)<(↑(240::r).length:Int))) (zc (240::r)[(2:Int).toNat]? λ b_1=>bif decide ((↑b_1.toNat:Int)<(128:Int)) then some (Out.ret (V.tup [V.d (D.int IntKind.i32 (65533:Int)),V.d (D.int .i64 (1:Int))]),[]) else bif decide ((191:Int)<(↑b_1.toNat:Int)) then some (Out.ret (V.tup [V.d (D.int IntKind.i32 (65533:Int)),V.d (D.int .i64 (1:Int))]),[]) else zb (decide ((3:Int)<(↑(240::r).length:Int))) (zc (240::r)[(3:Int).toNat]? λ b_2=>bif decide ((↑b_2.toNat:Int)<(128:Int)) then some (Out.ret (V.tup [V.d (D.int IntKind.i32 (65533:Int)),V.d (D.int .i64 (1:Int))]),[]) else bif decide ((191:Int)<(↑b_2.toNat:Int)) then some (Out.ret (V.tup [V.d (D.int IntKind.i32 (65533:Int)),V.d (D.int .i64 (1:Int))]),[]) else some (Out.ret (V.tup [V.d (D.int IntKind.i32 (wl BinOp.or IntKind.i32 (wl BinOp.or IntKind.i32 (wl BinOp.or IntKind.i32 (0:Int) (IntKind.i32.wrap (IntKind.i32.wrap (wl BinOp.and IntKind.u8 (↑b.toNat:Int) (63:Int)) * 2 ^ min (12:Int).toNat IntKind.i32.bits))) (IntKind.i32.wrap (IntKind.i32.wrap (wl BinOp.and IntKind.u8 (↑b_1.toNat:Int) (63:Int)) * 2 ^ min (6:Int).toNat IntKind.i32.bits))) (IntKind.i32.wrap (wl BinOp.and IntKind.u8 (↑b_2.toNat:Int) (63:Int))))),V.d (D.int .i64 (4:Int))]),[]))))):=by kernel_rfl
theorem zd9(n:Nat)(S:xi)(r:List UInt8):zn cx S n 141 [.d (.str (244::r))] []=zb (decide ((0:Int)<(↑(244::r).length:Int))) (bif decide ((↑(244::r).length:Int)<(4:Int)) then some (Out.ret (V.tup [V.d (D.int IntKind.i32 (65533:Int)),V.d (D.int .i64 (1:Int))]),[]) else zb (decide ((1:Int)<(↑(244::r).length:Int))) (zc (244::r)[(1:Int).toNat]? λ b=>bif decide ((↑b.toNat:Int)<(128:Int)) then some (Out.ret (V.tup [V.d (D.int IntKind.i32 (65533:Int)),V.d (D.int .i64 (1:Int))]),[]) else bif decide ((143:Int)<(↑b.toNat:Int)) then some (Out.ret (V.tup [V.d (D.int IntKind.i32 (65533:Int)),V.d (D.int .i64 (1:Int))]),[]) else zb (decide ((2:Int)<(↑(244::r).length:Int))) (zc (244::r)[(2:Int).toNat]? λ b_1=>bif decide ((↑b_1.toNat:Int)<(128:Int)) then some (Out.ret (V.tup [V.d (D.int IntKind.i32 (65533:Int)),V.d (D.int .i64 (1:Int))]),[]) else bif decide ((191:Int)<(↑b_1.toNat:Int)) then some (Out.ret (V.tup [V.d (D.int IntKind.i32 (65533:Int)),V.d (D.int .i64 (1:Int))]),[]) else zb (decide ((3:Int)<(↑(244::r).length:Int))) (zc (244::r)[(3:Int).toNat]? λ b_2=>bif decide ((↑b_2.toNat:Int)<(128:Int)) then some (Out.ret (V.tup [V.d (D.int IntKind.i32 (65533:Int)),V.d (D.int .i64 (1:Int))]),[]) else bif decide ((191:Int)<(↑b_2.toNat:Int)) then some (Out.ret (V.tup [V.d (D.int IntKind.i32 (65533:Int)),V.d (D.int .i64 (1:Int))]),[]) else some (Out.ret (V.tup [V.d (D.int IntKind.i32 (wl BinOp.or IntKind.i32 (wl BinOp.or IntKind.i32 (wl BinOp.or IntKind.i32 (1048576:Int) (IntKind.i32.wrap (IntKind.i32.wrap (wl BinOp.and IntKind.u8 (↑b.toNat:Int) (63:Int)) * 2 ^ min (12:Int).toNat IntKind.i32.bits))) (IntKind.i32.wrap (IntKind.i32.wrap (wl BinOp.and IntKind.u8 (↑b_1.toNat:Int) (63:Int)) * 2 ^ min (6:Int).toNat IntKind.i32.bits))) (IntKind.i32.wrap (wl BinOp.and IntKind.u8 (↑b_2.toNat:Int) (63:Int))))),V.d (D.int .i64 (4:Int))]),[]))))):=by kernel_rfl
theorem z82:∀ (l:List UInt8),zrj (224::l)
 | []=>by
  refine xc ?_ rfl;rw [zic];rfl
 | [c]=>xc (by rw [zic]; rfl) rfl
 | c::d::l=>by
  have hu:yc (224::c::d::l)=(bif decide (160≤c.toNat)&&decide (c.toNat≤191)&&yv d then 3 else 0):=rfl;by_cases h0a:(c.toNat:Int)<160
  ·exact xc (by rw [zic]; simp only [len0,len1,zaw,zav,ge2,ge3,ge4,at1,at2,at3,zb,zc,pw,px,pa h0a]) (by rw [hu,pb (p:=160≤c.toNat) (by omega)]; simp only [Bool.false_and,px])
  by_cases h0b:(191:Int)<(c.toNat:Int)
  ·exact xc (by rw [zic]; simp only [len0,len1,zaw,zav,ge2,ge3,ge4,at1,at2,at3,zb,zc,pw,px,pb h0a,pa h0b]) (by rw [hu,pb (p:=c.toNat≤191) (by omega)]; simp only [Bool.and_false,Bool.false_and,px])
  by_cases h1a:(d.toNat:Int)<128
  ·exact xc (by rw [zic]; simp only [len0,len1,zaw,zav,ge2,ge3,ge4,at1,at2,at3,zb,zc,pw,px,pb h0a,pb h0b,pa h1a]) (by rw [hu,zc1 (c:=d) (.inl h1a)]; simp only [Bool.and_false,Bool.false_and,px])
  by_cases h1b:(191:Int)<(d.toNat:Int)
  ·exact xc (by rw [zic]; simp only [len0,len1,zaw,zav,ge2,ge3,ge4,at1,at2,at3,zb,zc,pw,px,pb h0a,pb h0b,pb h1a,pa h1b]) (by rw [hu,zc1 (c:=d) (.inr h1b)]; simp only [Bool.and_false,Bool.false_and,px])
  exact zhy (k:=3) (by rw [zic]; simp only [len0,len1,zaw,zav,ge2,ge3,ge4,at1,at2,at3,zb,zc,pw,px,pb h0a,pb h0b,pb h1a,pb h1b]; rfl) (by rw [hu,pa (p:=160≤c.toNat) (by omega),pa (p:=c.toNat≤191) (by omega),zkg (c:=d) h1a h1b]; first | done | rfl) (by omega)
theorem z81:∀ (l:List UInt8),zrj (237::l)
 | []=>by
  refine xc ?_ rfl;rw [zib];rfl
 | [c]=>xc (by rw [zib]; rfl) rfl
 | c::d::l=>by
  have hu:yc (237::c::d::l)=(bif decide (128≤c.toNat)&&decide (c.toNat≤159)&&yv d then 3 else 0):=rfl;by_cases h0a:(c.toNat:Int)<128
  ·exact xc (by rw [zib]; simp only [len0,len1,zaw,zav,ge2,ge3,ge4,at1,at2,at3,zb,zc,pw,px,pa h0a]) (by rw [hu,pb (p:=128≤c.toNat) (by omega)]; simp only [Bool.false_and,px])
  by_cases h0b:(159:Int)<(c.toNat:Int)
  ·exact xc (by rw [zib]; simp only [len0,len1,zaw,zav,ge2,ge3,ge4,at1,at2,at3,zb,zc,pw,px,pb h0a,pa h0b]) (by rw [hu,pb (p:=c.toNat≤159) (by omega)]; simp only [Bool.and_false,Bool.false_and,px])
  by_cases h1a:(d.toNat:Int)<128
  ·exact xc (by rw [zib]; simp only [len0,len1,zaw,zav,ge2,ge3,ge4,at1,at2,at3,zb,zc,pw,px,pb h0a,pb h0b,pa h1a]) (by rw [hu,zc1 (c:=d) (.inl h1a)]; simp only [Bool.and_false,Bool.false_and,px])
  by_cases h1b:(191:Int)<(d.toNat:Int)
  ·exact xc (by rw [zib]; simp only [len0,len1,zaw,zav,ge2,ge3,ge4,at1,at2,at3,zb,zc,pw,px,pb h0a,pb h0b,pb h1a,pa h1b]) (by rw [hu,zc1 (c:=d) (.inr h1b)]; simp only [Bool.and_false,Bool.false_and,px])
  exact zhy (k:=3) (by rw [zib]; simp only [len0,len1,zaw,zav,ge2,ge3,ge4,at1,at2,at3,zb,zc,pw,px,pb h0a,pb h0b,pb h1a,pb h1b]; rfl) (by rw [hu,pa (p:=128≤c.toNat) (by omega),pa (p:=c.toNat≤159) (by omega),zkg (c:=d) h1a h1b]; first | done | rfl) (by omega)
theorem z80:∀ (l:List UInt8),zrj (240::l)
 | []=>by
  refine xc ?_ rfl;rw [zea];rfl
 | [c]=>xc (by rw [zea]; rfl) rfl
 | [c,d]=>xc (by rw [zea]; rfl) rfl
 | c::d::e::l=>by
  have hu:yc (240::c::d::e::l)=(bif decide (144≤c.toNat)&&decide (c.toNat≤191)&&yv d&&yv e then 4 else 0):=rfl;by_cases h0a:(c.toNat:Int)<144
  ·exact xc (by rw [zea]; simp only [len0,len1,zaw,zav,ge2,ge3,ge4,at1,at2,at3,zb,zc,pw,px,pa h0a]) (by rw [hu,pb (p:=144≤c.toNat) (by omega)]; simp only [Bool.false_and,px])
  by_cases h0b:(191:Int)<(c.toNat:Int)
  ·exact xc (by rw [zea]; simp only [len0,len1,zaw,zav,ge2,ge3,ge4,at1,at2,at3,zb,zc,pw,px,pb h0a,pa h0b]) (by rw [hu,pb (p:=c.toNat≤191) (by omega)]; simp only [Bool.and_false,Bool.false_and,px])
  by_cases h1a:(d.toNat:Int)<128
  ·exact xc (by rw [zea]; simp only [len0,len1,zaw,zav,ge2,ge3,ge4,at1,at2,at3,zb,zc,pw,px,pb h0a,pb h0b,pa h1a]) (by rw [hu,zc1 (c:=d) (.inl h1a)]; simp only [Bool.and_false,Bool.false_and,px])
  by_cases h1b:(191:Int)<(d.toNat:Int)
  ·exact xc (by rw [zea]; simp only [len0,len1,zaw,zav,ge2,ge3,ge4,at1,at2,at3,zb,zc,pw,px,pb h0a,pb h0b,pb h1a,pa h1b]) (by rw [hu,zc1 (c:=d) (.inr h1b)]; simp only [Bool.and_false,Bool.false_and,px])
  by_cases h2a:(e.toNat:Int)<128
  ·exact xc (by rw [zea]; simp only [len0,len1,zaw,zav,ge2,ge3,ge4,at1,at2,at3,zb,zc,pw,px,pb h0a,pb h0b,pb h1a,pb h1b,pa h2a]) (by rw [hu,zc1 (c:=e) (.inl h2a)]; simp only [Bool.and_false,Bool.false_and,px])
  by_cases h2b:(191:Int)<(e.toNat:Int)
  ·exact xc (by rw [zea]; simp only [len0,len1,zaw,zav,ge2,ge3,ge4,at1,at2,at3,zb,zc,pw,px,pb h0a,pb h0b,pb h1a,pb h1b,pb h2a,pa h2b]) (by rw [hu,zc1 (c:=e) (.inr h2b)]; simp only [Bool.and_false,Bool.false_and,px])
  exact zhy (k:=4) (by rw [zea]; simp only [len0,len1,zaw,zav,ge2,ge3,ge4,at1,at2,at3,zb,zc,pw,px,pb h0a,pb h0b,pb h1a,pb h1b,pb h2a,pb h2b]; rfl) (by rw [hu,pa (p:=144≤c.toNat) (by omega),pa (p:=c.toNat≤191) (by omega),zkg (c:=d) h1a h1b,zkg (c:=e) h2a h2b]; first | done | rfl) (by omega)
theorem z8z:∀ (l:List UInt8),zrj (244::l)
 | []=>by
  refine xc ?_ rfl;rw [zd9];rfl
 | [c]=>xc (by rw [zd9]; rfl) rfl
 | [c,d]=>xc (by rw [zd9]; rfl) rfl
 | c::d::e::l=>by
  have hu:yc (244::c::d::e::l)=(bif decide (128≤c.toNat)&&decide (c.toNat≤143)&&yv d&&yv e then 4 else 0):=rfl;by_cases h0a:(c.toNat:Int)<128
  ·exact xc (by rw [zd9]; simp only [len0,len1,zaw,zav,ge2,ge3,ge4,at1,at2,at3,zb,zc,pw,px,pa h0a]) (by rw [hu,pb (p:=128≤c.toNat) (by omega)]; simp only [Bool.false_and,px])
  by_cases h0b:(143:Int)<(c.toNat:Int)
  ·exact xc (by rw [zd9]; simp only [len0,len1,zaw,zav,ge2,ge3,ge4,at1,at2,at3,zb,zc,pw,px,pb h0a,pa h0b]) (by rw [hu,pb (p:=c.toNat≤143) (by omega)]; simp only [Bool.and_false,Bool.false_and,px])
  by_cases h1a:(d.toNat:Int)<128
  ·exact xc (by rw [zd9]; simp only [len0,len1,zaw,zav,ge2,ge3,ge4,at1,at2,at3,zb,zc,pw,px,pb h0a,pb h0b,pa h1a]) (by rw [hu,zc1 (c:=d) (.inl h1a)]; simp only [Bool.and_false,Bool.false_and,px])
  by_cases h1b:(191:Int)<(d.toNat:Int)
  ·exact xc (by rw [zd9]; simp only [len0,len1,zaw,zav,ge2,ge3,ge4,at1,at2,at3,zb,zc,pw,px,pb h0a,pb h0b,pb h1a,pa h1b]) (by rw [hu,zc1 (c:=d) (.inr h1b)]; simp only [Bool.and_false,Bool.false_and,px])
  by_cases h2a:(e.toNat:Int)<128
  ·exact xc (by rw [zd9]; simp only [len0,len1,zaw,zav,ge2,ge3,ge4,at1,at2,at3,zb,zc,pw,px,pb h0a,pb h0b,pb h1a,pb h1b,pa h2a]) (by rw [hu,zc1 (c:=e) (.inl h2a)]; simp only [Bool.and_false,Bool.false_and,px])
  by_cases h2b:(191:Int)<(e.toNat:Int)
  ·exact xc (by rw [zd9]; simp only [len0,len1,zaw,zav,ge2,ge3,ge4,at1,at2,at3,zb,zc,pw,px,pb h0a,pb h0b,pb h1a,pb h1b,pb h2a,pa h2b]) (by rw [hu,zc1 (c:=e) (.inr h2b)]; simp only [Bool.and_false,Bool.false_and,px])
  exact zhy (k:=4) (by rw [zd9]; simp only [len0,len1,zaw,zav,ge2,ge3,ge4,at1,at2,at3,zb,zc,pw,px,pb h0a,pb h0b,pb h1a,pb h1b,pb h2a,pb h2b]; rfl) (by rw [hu,pa (p:=128≤c.toNat) (by omega),pa (p:=c.toNat≤143) (by omega),zkg (c:=d) h1a h1b,zkg (c:=e) h2a h2b]; first | done | rfl) (by omega)
theorem c58(n:Nat)(S:xi)(b:UInt8)(r:List UInt8):zn cx S n 141 [.d (.str (b::r))] []=zb (decide ((0:Int)<(↑(b::r).length:Int))) (zb (decide ((↑b.toNat:Int)<(↑256:Int))) (za (D.agg (unW Pinned.utf8First)).cells (0+(↑b.toNat:Int).toNat * cx.P.cellsOf 5) λ c=>match c with
 | D.int k' n_1=>bif decide (k'=IntKind.u8) then OPS cx (CK.plain S) n 141 0 5 3 [(21,V.d (D.int .u8 n_1)),(20,V.gptr 1 (0+(↑b.toNat:Int).toNat * cx.P.cellsOf 5)),(19,V.d (D.int .u8 (↑b.toNat:Int))),(5,V.d (D.int .u8 (↑b.toNat:Int))),(18,V.d (D.int .u8 (↑b.toNat:Int))),(17,V.d (D.str (b::r))),(16,V.d (D.bool false)),(15,V.d (D.int .i64 (↑(b::r).length:Int))),(4,V.d (D.int .i64 (↑(b::r).length:Int))),(14,V.d (D.int .i64 (↑(b::r).length:Int))),(13,V.d (D.str (b::r))),(3,V.d (D.int .i64 (0:Int))),(2,V.d (D.int IntKind.i32 (0:Int))),(0,V.d (D.str (b::r)))] [] (AR cx (CK.plain S) n 141 0 5 (EK cx 141 0)) else none
 | x=>none)):=by kernel_rfl
theorem z8a(n:Nat)(S:xi)(b:UInt8)(r:List UInt8):OPS cx (CK.plain S) n 141 0 5 3 [(21,V.d (D.int .u8 241)),(20,V.gptr 1 (0+(↑b.toNat:Int).toNat * cx.P.cellsOf 5)),(19,V.d (D.int .u8 (↑b.toNat:Int))),(5,V.d (D.int .u8 (↑b.toNat:Int))),(18,V.d (D.int .u8 (↑b.toNat:Int))),(17,V.d (D.str (b::r))),(16,V.d (D.bool false)),(15,V.d (D.int .i64 (↑(b::r).length:Int))),(4,V.d (D.int .i64 (↑(b::r).length:Int))),(14,V.d (D.int .i64 (↑(b::r).length:Int))),(13,V.d (D.str (b::r))),(3,V.d (D.int .i64 (0:Int))),(2,V.d (D.int IntKind.i32 (0:Int))),(0,V.d (D.str (b::r)))] [] (AR cx (CK.plain S) n 141 0 5 (EK cx 141 0))=zb (decide ((0:Int)<(↑(b::r).length:Int))) (some (Out.ret (V.tup [V.d (D.int IntKind.i32 (wl BinOp.or IntKind.i32 (wl BinOp.andNot IntKind.i32 (IntKind.i32.wrap (↑b.toNat:Int)) (Int.negSucc 0)) (65533:Int))),V.d (D.int .i64 (1:Int))]),[])):=by kernel_rfl
theorem z01(n:Nat)(S:xi)(b:UInt8)(r:List UInt8):OPS cx (CK.plain S) n 141 0 5 3 [(21,V.d (D.int .u8 2)),(20,V.gptr 1 (0+(↑b.toNat:Int).toNat * cx.P.cellsOf 5)),(19,V.d (D.int .u8 (↑b.toNat:Int))),(5,V.d (D.int .u8 (↑b.toNat:Int))),(18,V.d (D.int .u8 (↑b.toNat:Int))),(17,V.d (D.str (b::r))),(16,V.d (D.bool false)),(15,V.d (D.int .i64 (↑(b::r).length:Int))),(4,V.d (D.int .i64 (↑(b::r).length:Int))),(14,V.d (D.int .i64 (↑(b::r).length:Int))),(13,V.d (D.str (b::r))),(3,V.d (D.int .i64 (0:Int))),(2,V.d (D.int IntKind.i32 (0:Int))),(0,V.d (D.str (b::r)))] [] (AR cx (CK.plain S) n 141 0 5 (EK cx 141 0))=bif decide ((↑(b::r).length:Int)<(2:Int)) then some (Out.ret (V.tup [V.d (D.int IntKind.i32 (65533:Int)),V.d (D.int .i64 (1:Int))]),[]) else zb (decide ((1:Int)<(↑(b::r).length:Int))) (zc (b::r)[(1:Int).toNat]? λ b_1=>bif decide ((↑b_1.toNat:Int)<(128:Int)) then some (Out.ret (V.tup [V.d (D.int IntKind.i32 (65533:Int)),V.d (D.int .i64 (1:Int))]),[]) else bif decide ((191:Int)<(↑b_1.toNat:Int)) then some (Out.ret (V.tup [V.d (D.int IntKind.i32 (65533:Int)),V.d (D.int .i64 (1:Int))]),[]) else some (Out.ret (V.tup [V.d (D.int IntKind.i32 (wl BinOp.or IntKind.i32 (IntKind.i32.wrap (IntKind.i32.wrap (wl BinOp.and IntKind.u8 (↑b.toNat:Int) (31:Int)) * 2 ^ min (6:Int).toNat IntKind.i32.bits)) (IntKind.i32.wrap (wl BinOp.and IntKind.u8 (↑b_1.toNat:Int) (63:Int))))),V.d (D.int .i64 (2:Int))]),[])):=by kernel_rfl
theorem zpi(n:Nat)(S:xi)(b:UInt8)(r:List UInt8):OPS cx (CK.plain S) n 141 0 5 3 [(21,V.d (D.int .u8 3)),(20,V.gptr 1 (0+(↑b.toNat:Int).toNat * cx.P.cellsOf 5)),(19,V.d (D.int .u8 (↑b.toNat:Int))),(5,V.d (D.int .u8 (↑b.toNat:Int))),(18,V.d (D.int .u8 (↑b.toNat:Int))),(17,V.d (D.str (b::r))),(16,V.d (D.bool false)),(15,V.d (D.int .i64 (↑(b::r).length:Int))),(4,V.d (D.int .i64 (↑(b::r).length:Int))),(14,V.d (D.int .i64 (↑(b::r).length:Int))),(13,V.d (D.str (b::r))),(3,V.d (D.int .i64 (0:Int))),(2,V.d (D.int IntKind.i32 (0:Int))),(0,V.d (D.str (b::r)))] [] (AR cx (CK.plain S) n 141 0 5 (EK cx 141 0))=bif decide ((↑(b::r).length:Int)<(3:Int)) then some (Out.ret (V.tup [V.d (D.int IntKind.i32 (65533:Int)),V.d (D.int .i64 (1:Int))]),[]) else zb (decide ((1:Int)<(↑(b::r).length:Int))) (zc (b::r)[(1:Int).toNat]? λ b_1=>bif decide ((↑b_1.toNat:Int)<(128:Int)) then some (Out.ret (V.tup [V.d (D.int IntKind.i32 (65533:Int)),V.d (D.int .i64 (1:Int))]),[]) else bif decide ((191:Int)<(↑b_1.toNat:Int)) then some (Out.ret (V.tup [V.d (D.int IntKind.i32 (65533:Int)),V.d (D.int .i64 (1:Int))]),[]) else zb (decide ((2:Int)<(↑(b::r).length:Int))) (zc (b::r)[(2:Int).toNat]? λ b_2=>bif decide ((↑b_2.toNat:Int)<(128:Int)) then some (Out.ret (V.tup [V.d (D.int IntKind.i32 (65533:Int)),V.d (D.int .i64 (1:Int))]),[]) else bif decide ((191:Int)<(↑b_2.toNat:Int)) then some (Out.ret (V.tup [V.d (D.int IntKind.i32 (65533:Int)),V.d (D.int .i64 (1:Int))]),[]) else some (Out.ret (V.tup [V.d (D.int IntKind.i32 (wl BinOp.or IntKind.i32 (wl BinOp.or IntKind.i32 (IntKind.i32.wrap (IntKind.i32.wrap (wl BinOp.and IntKind.u8 (↑b.toNat:Int) (15:Int)) * 2 ^ min (12:Int).toNat IntKind.i32.bits)) (IntKind.i32.wrap (IntKind.i32.wrap (wl BinOp.and IntKind.u8 (↑b_1.toNat:Int) (63:Int)) * 2 ^ min (6:Int).toNat IntKind.i32.bits))) (IntKind.i32.wrap (wl BinOp.and IntKind.u8 (↑b_2.toNat:Int) (63:Int))))),V.d (D.int .i64 (3:Int))]),[]))):=by kernel_rfl
theorem zke(n:Nat)(S:xi)(b:UInt8)(r:List UInt8):OPS cx (CK.plain S) n 141 0 5 3 [(21,V.d (D.int .u8 4)),(20,V.gptr 1 (0+(↑b.toNat:Int).toNat * cx.P.cellsOf 5)),(19,V.d (D.int .u8 (↑b.toNat:Int))),(5,V.d (D.int .u8 (↑b.toNat:Int))),(18,V.d (D.int .u8 (↑b.toNat:Int))),(17,V.d (D.str (b::r))),(16,V.d (D.bool false)),(15,V.d (D.int .i64 (↑(b::r).length:Int))),(4,V.d (D.int .i64 (↑(b::r).length:Int))),(14,V.d (D.int .i64 (↑(b::r).length:Int))),(13,V.d (D.str (b::r))),(3,V.d (D.int .i64 (0:Int))),(2,V.d (D.int IntKind.i32 (0:Int))),(0,V.d (D.str (b::r)))] [] (AR cx (CK.plain S) n 141 0 5 (EK cx 141 0))=bif decide ((↑(b::r).length:Int)<(4:Int)) then some (Out.ret (V.tup [V.d (D.int IntKind.i32 (65533:Int)),V.d (D.int .i64 (1:Int))]),[]) else zb (decide ((1:Int)<(↑(b::r).length:Int))) (zc (b::r)[(1:Int).toNat]? λ b_1=>bif decide ((↑b_1.toNat:Int)<(128:Int)) then some (Out.ret (V.tup [V.d (D.int IntKind.i32 (65533:Int)),V.d (D.int .i64 (1:Int))]),[]) else bif decide ((191:Int)<(↑b_1.toNat:Int)) then some (Out.ret (V.tup [V.d (D.int IntKind.i32 (65533:Int)),V.d (D.int .i64 (1:Int))]),[]) else zb (decide ((2:Int)<(↑(b::r).length:Int))) (zc (b::r)[(2:Int).toNat]? λ b_2=>bif decide ((↑b_2.toNat:Int)<(128:Int)) then some (Out.ret (V.tup [V.d (D.int IntKind.i32 (65533:Int)),V.d (D.int .i64 (1:Int))]),[]) else bif decide ((191:Int)<(↑b_2.toNat:Int)) then some (Out.ret (V.tup [V.d (D.int IntKind.i32 (65533:Int)),V.d (D.int .i64 (1:Int))]),[]) else zb (decide ((3:Int)<(↑(b::r).length:Int))) (zc (b::r)[(3:Int).toNat]? λ b_3=>bif decide ((↑b_3.toNat:Int)<(128:Int)) then some (Out.ret (V.tup [V.d (D.int IntKind.i32 (65533:Int)),V.d (D.int .i64 (1:Int))]),[]) else bif decide ((191:Int)<(↑b_3.toNat:Int)) then some (Out.ret (V.tup [V.d (D.int IntKind.i32 (65533:Int)),V.d (D.int .i64 (1:Int))]),[]) else some (Out.ret (V.tup [V.d (D.int IntKind.i32 (wl BinOp.or IntKind.i32 (wl BinOp.or IntKind.i32 (wl BinOp.or IntKind.i32 (IntKind.i32.wrap (IntKind.i32.wrap (wl BinOp.and IntKind.u8 (↑b.toNat:Int) (7:Int)) * 2 ^ min (18:Int).toNat IntKind.i32.bits)) (IntKind.i32.wrap (IntKind.i32.wrap (wl BinOp.and IntKind.u8 (↑b_1.toNat:Int) (63:Int)) * 2 ^ min (12:Int).toNat IntKind.i32.bits))) (IntKind.i32.wrap (IntKind.i32.wrap (wl BinOp.and IntKind.u8 (↑b_2.toNat:Int) (63:Int)) * 2 ^ min (6:Int).toNat IntKind.i32.bits))) (IntKind.i32.wrap (wl BinOp.and IntKind.u8 (↑b_3.toNat:Int) (63:Int))))),V.d (D.int .i64 (4:Int))]),[])))):=by kernel_rfl
def cl(n:Nat):Int:=bif Nat.blt n 128 then 240 else bif Nat.blt n 194 then 241 else bif Nat.blt n 224 then 2 else bif Nat.beq n 224 then 19 else bif Nat.beq n 237 then 35 else bif Nat.blt n 240 then 3 else bif Nat.beq n 240 then 52 else bif Nat.blt n 244 then 4 else bif Nat.beq n 244 then 68 else 241
theorem tab:unW Go.Pinned.utf8First=(List.range 256).map λ i=>D.int .u8 (cl i):=by kernel_rfl
theorem cells5:cx.P.cellsOf 5=1:=by kernel_rfl
theorem enter{b:UInt8}{r:List UInt8}{x:Int}(h:cl b.toNat=x):zn cx zo 0 141 [.d (.str (b::r))] []=OPS cx (CK.plain zo) 0 141 0 5 3 [(21,V.d (D.int .u8 x)),(20,V.gptr 1 (0+(↑b.toNat:Int).toNat * cx.P.cellsOf 5)),(19,V.d (D.int .u8 (↑b.toNat:Int))),(5,V.d (D.int .u8 (↑b.toNat:Int))),(18,V.d (D.int .u8 (↑b.toNat:Int))),(17,V.d (D.str (b::r))),(16,V.d (D.bool false)),(15,V.d (D.int .i64 (↑(b::r).length:Int))),(4,V.d (D.int .i64 (↑(b::r).length:Int))),(14,V.d (D.int .i64 (↑(b::r).length:Int))),(13,V.d (D.str (b::r))),(3,V.d (D.int .i64 (0:Int))),(2,V.d (D.int IntKind.i32 (0:Int))),(0,V.d (D.str (b::r)))] [] (AR cx (CK.plain zo) 0 141 0 5 (EK cx 141 0)):=by
 have hb:b.toNat<256:=b.toNat_lt;rw [c58,len0,pa (p:=(b.toNat:Int)<(256:Int)) (by omega)]
 have e:∀ (R:Type) (K:D→Option R),za (D.agg (unW Go.Pinned.utf8First)).cells (0+(b.toNat:Int).toNat * cx.P.cellsOf 5) K=K (.int .u8 x):=by
  intro R K;show za (unW Go.Pinned.utf8First) _ K=_;unfold za;rw [tab,cells5,Nat.zero_add,Nat.mul_one,po,List.getElem?_map,List.getElem?_range hb];simp only [Option.map_some,h]
 simp only [zb,pw];rw [e];simp only [decide_true,pw]
theorem z8e(b:UInt8):wl BinOp.or IntKind.i32 (wl BinOp.andNot IntKind.i32 (IntKind.i32.wrap (b.toNat:Int)) (Int.negSucc 0)) (65533:Int)=65533:=by
 have h:∀ i:_root_.Fin 256,wl BinOp.or IntKind.i32 (wl BinOp.andNot IntKind.i32 (IntKind.i32.wrap (i.val:Int)) (Int.negSucc 0)) (65533:Int)=65533:=by decide +kernel
 exact h ⟨b.toNat,b.toNat_lt⟩
theorem z8y(b:UInt8)(l:List UInt8)(h:cl b.toNat=241)(hu:∀ l,yc (b::l)=0):zrj (b::l):=by
 refine xc ?_ (hu l);rw [enter h,z8a,len0,z8e];rfl
theorem yb6(b:UInt8)(h:cl b.toNat=2)(hu0:yc [b]=0)(hU:∀ c l,yc (b::c::l)=(bif yv c then 2 else 0)):∀ (l:List UInt8),zrj (b::l)
 | []=>by
  refine xc ?_ hu0;rw [enter h,z01];rfl
 | c::l=>by
  have hu:=hU c l;by_cases h0a:(c.toNat:Int)<128
  ·exact xc (by rw [enter h,z01]; simp only [len0,len1,zaw,zav,ge2,ge3,ge4,at1,at2,at3,zb,zc,pw,px,pa h0a]) (by rw [hu,zc1 (c:=c) (.inl h0a)]; simp only [Bool.and_false,Bool.false_and,px])
  by_cases h0b:(191:Int)<(c.toNat:Int)
  ·exact xc (by rw [enter h,z01]; simp only [len0,len1,zaw,zav,ge2,ge3,ge4,at1,at2,at3,zb,zc,pw,px,pb h0a,pa h0b]) (by rw [hu,zc1 (c:=c) (.inr h0b)]; simp only [Bool.and_false,Bool.false_and,px])
  exact zhy (k:=2) (by rw [enter h,z01]; simp only [len0,len1,zaw,zav,ge2,ge3,ge4,at1,at2,at3,zb,zc,pw,px,pb h0a,pb h0b]; rfl) (by rw [hu,zkg (c:=c) h0a h0b]; first | done | rfl) (by omega)
theorem yb5(b:UInt8)(h:cl b.toNat=3)(hu0:yc [b]=0)(hu1:∀ c,yc [b,c]=0)(hU:∀ c d l,yc (b::c::d::l)=(bif decide (128≤c.toNat)&&decide (c.toNat≤191)&&yv d then 3 else 0)):∀ (l:List UInt8),zrj (b::l)
 | []=>by
  refine xc ?_ hu0;rw [enter h,zpi];rfl
 | [c]=>xc (by rw [enter h,zpi]; rfl) (hu1 c)
 | c::d::l=>by
  have hu:=hU c d l;by_cases h0a:(c.toNat:Int)<128
  ·exact xc (by rw [enter h,zpi]; simp only [len0,len1,zaw,zav,ge2,ge3,ge4,at1,at2,at3,zb,zc,pw,px,pa h0a]) (by rw [hu,pb (p:=128≤c.toNat) (by omega)]; simp only [Bool.false_and,px])
  by_cases h0b:(191:Int)<(c.toNat:Int)
  ·exact xc (by rw [enter h,zpi]; simp only [len0,len1,zaw,zav,ge2,ge3,ge4,at1,at2,at3,zb,zc,pw,px,pb h0a,pa h0b]) (by rw [hu,pb (p:=c.toNat≤191) (by omega)]; simp only [Bool.and_false,Bool.false_and,px])
  by_cases h1a:(d.toNat:Int)<128
  ·exact xc (by rw [enter h,zpi]; simp only [len0,len1,zaw,zav,ge2,ge3,ge4,at1,at2,at3,zb,zc,pw,px,pb h0a,pb h0b,pa h1a]) (by rw [hu,zc1 (c:=d) (.inl h1a)]; simp only [Bool.and_false,Bool.false_and,px])
  by_cases h1b:(191:Int)<(d.toNat:Int)
  ·exact xc (by rw [enter h,zpi]; simp only [len0,len1,zaw,zav,ge2,ge3,ge4,at1,at2,at3,zb,zc,pw,px,pb h0a,pb h0b,pb h1a,pa h1b]) (by rw [hu,zc1 (c:=d) (.inr h1b)]; simp only [Bool.and_false,Bool.false_and,px])
  exact zhy (k:=3) (by rw [enter h,zpi]; simp only [len0,len1,zaw,zav,ge2,ge3,ge4,at1,at2,at3,zb,zc,pw,px,pb h0a,pb h0b,pb h1a,pb h1b]; rfl) (by rw [hu,pa (p:=128≤c.toNat) (by omega),pa (p:=c.toNat≤191) (by omega),zkg (c:=d) h1a h1b]; first | done | rfl) (by omega)
theorem yb4(b:UInt8)(h:cl b.toNat=4)(hu0:yc [b]=0)(hu1:∀ c,yc [b,c]=0)(hu2:∀ c d,yc [b,c,d]=0)(hU:∀ c d e l,yc (b::c::d::e::l)=(bif decide (128≤c.toNat)&&decide (c.toNat≤191)&&yv d&&yv e then 4 else 0)):∀ (l:List UInt8),zrj (b::l)
 | []=>by
  refine xc ?_ hu0;rw [enter h,zke];rfl
 | [c]=>xc (by rw [enter h,zke]; rfl) (hu1 c)
 | [c,d]=>xc (by rw [enter h,zke]; rfl) (hu2 c d)
 | c::d::e::l=>by
  have hu:=hU c d e l;by_cases h0a:(c.toNat:Int)<128
  ·exact xc (by rw [enter h,zke]; simp only [len0,len1,zaw,zav,ge2,ge3,ge4,at1,at2,at3,zb,zc,pw,px,pa h0a]) (by rw [hu,pb (p:=128≤c.toNat) (by omega)]; simp only [Bool.false_and,px])
  by_cases h0b:(191:Int)<(c.toNat:Int)
  ·exact xc (by rw [enter h,zke]; simp only [len0,len1,zaw,zav,ge2,ge3,ge4,at1,at2,at3,zb,zc,pw,px,pb h0a,pa h0b]) (by rw [hu,pb (p:=c.toNat≤191) (by omega)]; simp only [Bool.and_false,Bool.false_and,px])
  by_cases h1a:(d.toNat:Int)<128
  ·exact xc (by rw [enter h,zke]; simp only [len0,len1,zaw,zav,ge2,ge3,ge4,at1,at2,at3,zb,zc,pw,px,pb h0a,pb h0b,pa h1a]) (by rw [hu,zc1 (c:=d) (.inl h1a)]; simp only [Bool.and_false,Bool.false_and,px])
  by_cases h1b:(191:Int)<(d.toNat:Int)
  ·exact xc (by rw [enter h,zke]; simp only [len0,len1,zaw,zav,ge2,ge3,ge4,at1,at2,at3,zb,zc,pw,px,pb h0a,pb h0b,pb h1a,pa h1b]) (by rw [hu,zc1 (c:=d) (.inr h1b)]; simp only [Bool.and_false,Bool.false_and,px])
  by_cases h2a:(e.toNat:Int)<128
  ·exact xc (by rw [enter h,zke]; simp only [len0,len1,zaw,zav,ge2,ge3,ge4,at1,at2,at3,zb,zc,pw,px,pb h0a,pb h0b,pb h1a,pb h1b,pa h2a]) (by rw [hu,zc1 (c:=e) (.inl h2a)]; simp only [Bool.and_false,Bool.false_and,px])
  by_cases h2b:(191:Int)<(e.toNat:Int)
  ·exact xc (by rw [enter h,zke]; simp only [len0,len1,zaw,zav,ge2,ge3,ge4,at1,at2,at3,zb,zc,pw,px,pb h0a,pb h0b,pb h1a,pb h1b,pb h2a,pa h2b]) (by rw [hu,zc1 (c:=e) (.inr h2b)]; simp only [Bool.and_false,Bool.false_and,px])
  exact zhy (k:=4) (by rw [enter h,zke]; simp only [len0,len1,zaw,zav,ge2,ge3,ge4,at1,at2,at3,zb,zc,pw,px,pb h0a,pb h0b,pb h1a,pb h1b,pb h2a,pb h2b]; rfl) (by rw [hu,pa (p:=128≤c.toNat) (by omega),pa (p:=c.toNat≤191) (by omega),zkg (c:=d) h1a h1b,zkg (c:=e) h2a h2b]; first | done | rfl) (by omega)
theorem yb7:∀ i:_root_.Fin 256,128≤i.val→(cl i.val=241∧(i.val<194∨244<i.val))∨(cl i.val=2∧194≤i.val∧i.val≤223)∨i.val=224∨i.val=237∨(cl i.val=3∧225≤i.val∧i.val≤239∧i.val ≠ 237)∨i.val=240∨(cl i.val=4∧241≤i.val∧i.val≤243)∨i.val=244:=by decide +kernel
theorem d20(b:UInt8)(l:List UInt8)(h:128≤b.toNat):zrj (b::l):=by
 have f0:decide (b.toNat<128)=false:=pb (by omega)
 rcases yb7 ⟨b.toNat,b.toNat_lt⟩ h with ⟨hc,hr⟩ | ⟨hc,h1,h2⟩ | hb | hb | ⟨hc,h1,h2,h3⟩ | hb | ⟨hc,h1,h2⟩ | hb
 ·simp only at hc hr;refine z8y b l hc λ l=>?_;have g1:(decide (194≤b.toNat)&&decide (b.toNat≤223))=false:=by rcases hr with hr | hr <;> simp <;> omega
  have g2:(decide (224≤b.toNat)&&decide (b.toNat≤239))=false:=by rcases hr with hr | hr <;> simp <;> omega
  have g3:(decide (240≤b.toNat)&&decide (b.toNat≤244))=false:=by rcases hr with hr | hr <;> simp <;> omega
  simp only [yc,f0,g1,g2,g3,px]
 ·simp only at hc h1 h2;have g1:(decide (194≤b.toNat)&&decide (b.toNat≤223))=true:=by simp; omega
  exact yb6 b hc (by simp only [yc,f0,g1,px,pw]) (λ c l=>by simp only [yc,f0,g1,px,pw]) l
 ·obtain rfl:b=224:=UInt8.toNat_inj.1 hb;exact z82 l
 ·obtain rfl:b=237:=UInt8.toNat_inj.1 hb;exact z81 l
 ·simp only at hc h1 h2 h3;have g1:(decide (194≤b.toNat)&&decide (b.toNat≤223))=false:=by simp; omega
  have g2:(decide (224≤b.toNat)&&decide (b.toNat≤239))=true:=by simp; omega
  have g3:decide (b.toNat=224)=false:=pb (by omega)
  have g4:decide (b.toNat=237)=false:=pb h3;exact yb5 b hc (by simp only [yc,f0,g1,g2,px,pw]) (λ c=>by simp only [yc,f0,g1,g2,px,pw]) (λ c d l=>by simp only [yc,f0,g1,g2,g3,g4,px,pw]) l
 ·obtain rfl:b=240:=UInt8.toNat_inj.1 hb;exact z80 l
 ·simp only at hc h1 h2;have g1:(decide (194≤b.toNat)&&decide (b.toNat≤223))=false:=by simp; omega
  have g2:(decide (224≤b.toNat)&&decide (b.toNat≤239))=false:=by simp; omega
  have g5:(decide (240≤b.toNat)&&decide (b.toNat≤244))=true:=by simp; omega
  have g3:decide (b.toNat=240)=false:=pb (by omega)
  have g4:decide (b.toNat=244)=false:=pb (by omega)
  exact yb4 b hc (by simp only [yc,f0,g1,g2,g5,px,pw]) (λ c=>by simp only [yc,f0,g1,g2,g5,px,pw]) (λ c d=>by simp only [yc,f0,g1,g2,g5,px,pw]) (λ c d e l=>by simp only [yc,f0,g1,g2,g3,g4,g5,px,pw]) l
 ·obtain rfl:b=244:=UInt8.toNat_inj.1 hb;exact z8z l
def za2(s:List UInt8):Int×Int:=match zj cx 141 [.d (.str s)] [] with | some (.ret (.tup [.d (.int _ r),.d (.int _ n)]),_)=>(r,n) | _=>(0,0)
def z4z:List V→Option Out | [.d (.str (b::r))]=>some (.ret (.tup [.d (.int .i32 (za2 (b::r)).1),.d (.int .i64 (za2 (b::r)).2)])) | _=>none
def S12:xi:=zjj 141 z4z zo
theorem b12(n:Nat)(b:UInt8)(r:List UInt8):zn cx S12 n 100 [.d (.str (b::r))] []=zb (decide ((0:Int)<(↑(b::r).length:Int))) (bif decide ((↑b.toNat:Int)<(128:Int)) then zb (decide ((0:Int)<(↑(b::r).length:Int))) (some (Out.ret (V.tup [V.d (D.int IntKind.i32 (IntKind.i32.wrap (↑b.toNat:Int))),V.d (D.int .i64 (1:Int))]),[])) else zb (decide (128≤b.toNat)) (some (Out.ret (V.tup [V.d (D.int IntKind.i32 (za2 (b::r)).fst),V.d (D.int .i64 (za2 (b::r)).snd)]),[]))):=by kernel_rfl
theorem z17{args:List V}{o:Out}(h:z4z args=some o):∃ b r,args=[.d (.str (b::r))]∧o=.ret (.tup [.d (.int .i32 (za2 (b::r)).1),.d (.int .i64 (za2 (b::r)).2)]):=by
 unfold z4z at h;split at h
 ·cases h; exact ⟨_,_,rfl,rfl⟩
 ·cases h
theorem z0s{b:UInt8}{r:List UInt8}(h:128≤b.toNat):zj cx 141 [.d (.str (b::r))] []=some (.ret (.tup [.d (.int .i32 (za2 (b::r)).1),.d (.int .i64 (za2 (b::r)).2)]),[]) ∧
  (yc (b::r)=0→(za2 (b::r)).1=65533∧(za2 (b::r)).2<2)∧(yc (b::r) ≠ 0→(za2 (b::r)).2=yc (b::r)∧((za2 (b::r)).2<2→(za2 (b::r)).1 ≠ 65533)):=by
 obtain ⟨x,n,h1,h2,h3⟩:=d20 b r h;have e:za2 (b::r)=(x,n):=by unfold za2; rw [h1]
 rw [e];exact ⟨h1,h2,h3⟩
theorem zt8:knows cx S12 (zj cx):=vd (xr cx) λ args o hd h=>by
 obtain ⟨b,r,rfl,rfl⟩:=z17 h;exact (z0s (pc hd)).1
theorem z5x(b:UInt8)(r:List UInt8):∃ x n:Int,zj cx 100 [.d (.str (b::r))] []=some (.ret (.tup [.d (.int .i32 x),.d (.int .i64 n)]),[]) ∧
  (yc (b::r)=0→x=65533∧n<2)∧(yc (b::r) ≠ 0→n=yc (b::r)∧(n<2→x ≠ 65533)):=by
 by_cases h:b.toNat<128
 ·have hu:yc (b::r)=1:=by simp only [yc,pa h,pw]
  refine ⟨IntKind.i32.wrap b.toNat,1,wy (N:=0) zt8 ?_,λ h0=>by omega,λ _=>⟨by rw [hu]; rfl,λ _ he=>?_⟩⟩
  ·rw [b12,len0,pa (p:=(b.toNat:Int)<128) (by omega)]
   rfl
  ·have:IntKind.i32.wrap (b.toNat:Int)=b.toNat:=by rw [IntKind.wrap_i32]; omega
   omega
 ·obtain ⟨h1,h2,h3⟩:=z0s (r:=r) (Nat.le_of_not_lt h);refine ⟨_,_,wy (N:=0) zt8 ?_,h2,h3⟩;rw [b12,len0,pb (p:=(b.toNat:Int)<128) (by omega),pa (p:=128≤b.toNat) (by omega)]
  rfl
theorem z5w:zj cx 100 [.d (.str [])] []=some (.ret (.tup [.d (.int .i32 65533),.d (.int .i64 0)]),[]):=zhm (n:=10) (by kernel_rfl)
theorem yd7:∀ (s:List UInt8),zj cx 100 [.d (.str s)] []=some (.ret (.tup [.d (.int .i32 (qq s).1),.d (.int .i64 (qq s).2)]),[])
 | []=>by
  have e:qq []=(65533,0):=by unfold qq; rw [z5w]
  rw [e]; exact z5w
 | b::r=>by
  obtain ⟨x,n,h,_⟩:=z5x b r;have e:qq (b::r)=(x,n):=by unfold qq; rw [h]
  rw [e]; exact h
theorem yfd:yae:=by
 intro l hl;cases l with
 | nil=>exact absurd rfl hl
 | cons b r=>
  obtain ⟨x,n,h,h2⟩:=z5x b r;have e:qq (b::r)=(x,n):=by unfold qq; rw [h]
  rw [e]; exact h2
theorem zrg:knows cx S7 (zj cx):=by
 refine vd (vd (vd (xr cx) ?_) ?_) ?_
 ·intro args o hd h;unfold yc7 at h;split at h
  ·cases h; exact yd5 _ (pc hd)
  ·cases h
 ·intro args o hd h;unfold z9l at h;split at h
  ·cases h;rename_i s a;have hd':(decide (s.length≤big)&&(decide (0≤a)&&decide (a≤(s.length:Int))))=true:=hd;simp only [pm,decide_eq_true_eq] at hd';obtain ⟨h1,h2,h3⟩:=hd';have:=yd6 s a.toNat h1 (by omega)
   rw [show ((a.toNat:Nat):Int)=a by omega] at this
   exact this
  ·cases h
 ·intro args o _ h;unfold yfe at h;split at h
  ·cases h; exact yd7 _
  ·cases h
theorem yhc(s:List UInt8):zj cx 63 [.d (.str s)] [(0,.tok 0)]=zhd (zai s):=by
 unfold zai;by_cases h:65536<s.length
 ·rw [pa h,pw];refine wy (N:=0) zrg ?_;rw [b7,pa (p:=(65536:Int)<(s.length:Int)) (by omega)]
  rfl
 ·rw [pb h,px];have hl:=z4j yfd (s:=s) (by omega) (n:=s.length+1) (by omega) s.length 0 (s.length+1) (by omega) (by omega) (Nat.zero_le _)
  rw [List.drop_zero] at hl;have:zn cx S7 (s.length+1) 63 [.d (.str s)] [(0,.tok 0)]=z4k s (qb s.length s 0):=by
   rw [b7,pb (p:=(65536:Int)<(s.length:Int)) (by omega),px]
   exact hl
  cases hu:qb s.length s 0 with
  | none=>rw [hu] at this; exact wy (N:=s.length+1) zrg this
  | some p=>rw [hu] at this; exact wy (N:=s.length+1) zrg this
theorem zs1:∀ (r:List UInt8) (j:Nat),j≤vf r j
 | [],j=>Nat.le_refl _
 | b::r,j=>by
  have:=zs1 r (j+1);simp only [vf];cases (x9 b.toNat||(decide (0<j)&&zcf b.toNat))
  ·exact Nat.le_refl _
  ·simp only [pw]; omega
theorem znr(s:List UInt8):∀ l:List (List UInt8),(yr s l).2=[]∨(yr s l).1=2
 | []=>.inl rfl
 | x::l=>by
  simp only [yr];cases zt s x
  ·exact znr s l
  ·exact .inr rfl
inductive Cov (s:List UInt8):Nat→List D→Prop
 | fin {e:Nat}:e≤s.length→y7 s e=s.length→Cov s e [zj8 0 [] (s.length:Int)]
 | tok {e j:Nat} {k:Int} {t:List UInt8} {rest:List D}:e≤s.length→y7 s e=j→j<s.length→yy (s.drop j)=(k,t)→t ≠ []→Cov s (j+t.length) rest→Cov s e (zj8 k t (j:Int)::rest)
theorem Cov.ne{s:List UInt8}{e:Nat}{l:List D}(h:Cov s e l):0<l.length:=by cases h <;> simp
theorem zv0{s:List UInt8}:∀ (f e:Nat) (acc:List D),e≤s.length→s.length - y7 s e<f →
  (∃ rest,zb5 f s (y7 s e) acc=(acc++rest,0,0)∧Cov s e rest)∨(∃ p:Nat,zb5 f s (y7 s e) acc=([],(p:Int),61)∧p<s.length)
 | 0,_,_,_,hf=>by omega
 | f+1,e,acc,he,hf=>by
  have hb:=zbq he;rw [zb5];by_cases hlt:y7 s e<s.length
  ·rw [pa hlt,pw];have hle:=zun (s.drop (y7 s e));rw [List.length_drop] at hle;by_cases ho:(yy (s.drop (y7 s e))).2=[]
   ·rw [pa ho,pw]; exact .inr ⟨_,rfl,hlt⟩
   ·rw [pb ho,px];have hpos:0<(yy (s.drop (y7 s e))).2.length:=List.length_pos_iff.2 ho;have hb2:=zbq (s:=s) (j:=y7 s e+(yy (s.drop (y7 s e))).2.length) (by omega)
    rcases zv0 (s:=s) f (y7 s e+(yy (s.drop (y7 s e))).2.length) (acc++[zj8 (yy (s.drop (y7 s e))).1 (yy (s.drop (y7 s e))).2 (y7 s e:Int)]) (by omega) (by omega) with ⟨rest,h1,h2⟩ | h
    ·exact .inl ⟨_,by rw [h1,List.append_assoc]; rfl,.tok he rfl hlt rfl ho h2⟩
    ·exact .inr h
  ·rw [pb hlt,px];exact .inl ⟨_,rfl,.fin he (by omega)⟩
theorem zmp(s:List UInt8):(s.length≤65536∧qb s.length s 0=none∧∃ l,zai s=(l,0,0)∧Cov s 0 l)∨(¬ (zai s).2.2=0∧(zai s).1=[]∧∃ p:Nat,(zai s).2.1=(p:Int)∧p≤s.length):=by
 unfold zai;by_cases h:65536<s.length
 ·rw [pa h,pw]; exact .inr ⟨by decide,rfl,0,rfl,Nat.zero_le _⟩
 ·rw [pb h,px];cases hu:qb s.length s 0 with
  | none=>
   have hb:=zbq (s:=s) (j:=0) (Nat.zero_le _);rcases zv0 (s:=s) (s.length+1) 0 [] (Nat.zero_le _) (by omega) with ⟨rest,h1,h2⟩ | ⟨p,h1,h2⟩
   ·exact .inl ⟨by omega,rfl,rest,by simpa using h1,h2⟩
   ·exact .inr (by rw [h1]; exact ⟨λ h=>absurd (show (61:Int)=0 from h) (by decide),rfl,p,rfl,by omega⟩)
  | some p=>
   refine .inr ⟨by simp,rfl,p,rfl,?_⟩
   have hle:∀ (f j p:Nat) (r:List UInt8),r.length+j≤s.length→qb f r j=some p→p≤s.length:=by
    intro f
    induction f with
    | zero=>intro j p r hr h; cases r with | nil=>cases h | cons b r=>cases h; omega
    | succ f ih=>
     intro j p r hr h;cases r with
     | nil=>cases h
     | cons b r=>
      rw [qb] at h;cases hb:Nat.beq (yc (b::r)) 0
      ·rw [hb,px] at h;have:=zyi (b::r);exact ih _ p _ (by rw [List.length_drop]; omega) h
      ·rw [hb,pw] at h; cases h; omega
   exact hle _ _ _ _ (Nat.le_refl _) hu
def Tk(k:Int)(t:List UInt8):Prop:=(k=1∧∃ b r,t=b::r∧x9 (b.toNat:Int)=true∧∀ c∈r,(x9 (c.toNat:Int)||zcf (c.toNat:Int))=true)∨(k=2∧t∈zel)
def stops(r:List UInt8):Prop:=r=[]∨∃ c r',r=c::r'∧(c=32∨c=10∨c=45)
inductive LTok:List D→Prop
 | fin {a:Int}:LTok [zj8 0 [] a]
 | tok {k:Int} {t:List UInt8} {a:Int} {l:List D}:Tk k t→t.length≤65536→LTok l→LTok (zj8 k t a::l)
def kt:D→Int×List UInt8 | .agg [.int _ k,.str t,_]=>(k,t) | _=>(0,[])
abbrev R1:=Out×St
def zpe(o:Option R1)(K:Out→St→Option R1):Option R1:=match o with | some (a,s)=>K a s | none=>none
theorem zal{α:Type}(x:Option α)(F:α→Option R1)(K:Out→St→Option R1):zpe (zc x F) K=zc x λ a=>zpe (F a) K:=by cases x <;> rfl
theorem vn(c:Bool)(a b:Option R1)(K:Out→St→Option R1):zpe (bif c then a else b) K=bif c then zpe a K else zpe b K:=by cases c <;> rfl
abbrev yc4(l:List D)(i:Int):St:=[(0,.val 2 (.d (.agg [.sl 3 l,.int .i64 i])))]
structure RF where
 α:Type
 dec:List V→Option α
 go:List D→Int→α→(Out→Int→Option R1)→Option R1
 ok:∀ l i x (K:Out→St→Option R1),go l i x (λ o j=>K o (yc4 l j))=zpe (go l i x λ o j=>some (o,yc4 l j)) K
abbrev up(i:Int):Int:=IntKind.i64.wrap (i+1)
theorem zp:knows cx (CK.plain (R:=R1) zo).S (zj cx):=xr cx
structure Tr where
 k:Int
 nm:List UInt8
 kids:List D
 nms:List D
 pl:Int
instance:Inhabited Tr:=⟨⟨0,[],[],[],0⟩⟩
inductive PR where
 | ok (t:Tr) (j:Int)
 | bad (a e j:Int)
inductive PN where
 | ok (l:List D) (j:Int)
 | bad (a e j:Int)
structure Tb where
 names:List D→Int→Option PN
 face:List D→Int→Option PR
 term:List D→Int→Int→Option PR
 after:List D→Int→Int→Tr→Option PR
 atom:List D→Int→Int→Option PR
 box:List D→Int→Int→Option PR
 join:List D→Int→Int→Option PR
 meet:List D→Int→Int→Option PR
 dim:List D→Int→Int→Option PR
def v6(s:List UInt8):List D:=(zai s).1
def zvq(s:List UInt8):Int:=(zai s).2.1
def zd4(s:List UInt8):Int:=(zai s).2.2
def z6y:List V→St→Option (List UInt8)
 | [.d (.str s)],[(0,.tok 0)]=>some s
 | _,_=>none
def z2s(K:Out→St→Option R1)(s:List UInt8):Option R1:=
 bif decide (zd4 s=0) then K (.ret (.tup [.sl 3 (v6 s) 0,.d (.int .i64 (zvq s)),.d (.int .i64 0)])) [(0,.tok (v6 s).length)]
 else K (.ret (.tup [.d (.sl 3 []),.d (.int .i64 (zvq s)),.d (.int .i64 (zd4 s))])) [(0,.tok 0)]
theorem z8p(K:Out→St→Option R1)(s:List UInt8):z2s K s=zpe (z2s (λ o s=>some (o,s)) s) K:=by
 unfold z2s;rw [vn];rfl
def more{α:Type}(f:Nat)(dec:List V→St→Option α)(go:(Out→St→Option R1)→α→Option R1)(ok:∀ K q,go K q=zpe (go (λ o s=>some (o,s)) q) K)(S:CK R1):CK R1 where
 S:=λ g args σ=>bif Nat.beq g f then zc (dec args σ) λ q=>go (λ o s=>some (o,s)) q else S.S g args σ
 run:=λ g args σ K=>bif Nat.beq g f then zc (dec args σ) λ q=>go K q else S.run g args σ K
 ok:=λ g a σ K=>by
  show _=zpe _ K;rw [vn,zal];cases Nat.beq g f
  ·exact S.ok g a σ K
  ·simp only [pw];congr 1;funext q;exact ok K q
theorem v8{α:Type}{f:Nat}{dec:List V→St→Option α}{go:(Out→St→Option R1)→α→Option R1}{ok:∀ K q,go K q=zpe (go (λ o s=>some (o,s)) q) K}{S:CK R1}(hS:knows cx S.S (zj cx))
  (hf:∀ a σ q r,dec a σ=some q→go (λ o s=>some (o,s)) q=some r→zj cx f a σ=some r):knows cx (more f dec go ok S).S (zj cx):=by
 intro g args σ r hd h;simp only [more] at h;cases hg:Nat.beq g f <;> rw [hg] at h
 ·exact hS g args σ r hd h
 ·obtain rfl:=pj hg;simp only [pw] at h;obtain ⟨q,hq,h⟩:=zd h;exact hf args σ q r hq h
theorem z60{s:List UInt8}{e:Nat}{l:List D}(h:Cov s e l):∃ I,l=I++[zj8 0 [] (s.length:Int)]:=by
 induction h with
 | fin _ _=>exact ⟨[],rfl⟩
 | tok _ _ _ _ _ _ ih=>obtain ⟨I,rfl⟩:=ih; exact ⟨_::I,rfl⟩
theorem scan_ok{s:List UInt8}(h:decide (zd4 s=0)=true):∃ I,v6 s=I++[zj8 0 [] (s.length:Int)]:=by
 simp only [decide_eq_true_eq] at h;rcases zmp s with ⟨_,_,l,hl,hc⟩ | ⟨h1,_⟩
 ·obtain ⟨I,rfl⟩:=z60 hc;exact ⟨I,by unfold v6; rw [hl]⟩
 ·exact absurd h h1
theorem ya5(a:List V)(σ:St)(s:List UInt8)(r:R1)(hd:z6y a σ=some s)(h:z2s (λ o s=>some (o,s)) s=some r):zj cx 63 a σ=some r:=by
 unfold z6y at hd;split at hd
 ·cases hd;rw [yhc];unfold z2s at h;cases hs:decide (zd4 s=0) <;> rw [hs] at h
  ·rw [px] at h;simp only [decide_eq_false_iff_not] at hs;rcases zmp s with ⟨_,_,l,hl,_⟩ | ⟨_,h2,_⟩
   ·exact absurd (by unfold zd4; rw [hl]) hs
   ·rw [←h]; unfold zhd; rw [h2]; rfl
  ·obtain ⟨I,hI⟩:=scan_ok hs;have hz:(zai s).2.2=0:=pc hs;rw [pw] at h;rw [←h];unfold zhd;rw [hz];unfold v6 zvq;have e:ybn (zai s).1=.sl 3 (zai s).1 0:=by
    have:(zai s).1=I++[zj8 0 [] (s.length:Int)]:=hI;rw [this]; exact zw8 _ _
   rw [e]
 ·cases hd
def z9n:List V→Option Out | [.d (.int .u8 c)]=>some (.ret (.tup [.d (.int .i64 (xe c)),.d (.int .i64 (zaa c))])) | _=>none
def S15:xi:=zjj 219 z9n zo
theorem z3q:knows cx S15 (zj cx):=vd (xr cx) λ args o _ h=>by
 unfold z9n at h;split at h
 ·cases h; exact ydx _
 ·cases h
theorem b15(n:Nat)(s:List UInt8) :
    zn cx S15 n 197 [.d (.str s)] [] =
  LP cx S15 n 197 0 2 n [(0,V.d (D.str s)),(3,V.d (D.int .i64 (0:Int)))] []
    (AK cx S15 n 197 0 2 (EK cx 197 0)):=by kernel_rfl
theorem l15(n k:Nat)(s:List UInt8)(i:Int) :
    LP cx S15 n 197 0 2 (k+1) [(0,.d (.str s)),(3,.d (.int .i64 i))] [] (AK cx S15 n 197 0 2 (EK cx 197 0)) =
  bif decide (i<(↑s.length:Int)) then
    zb (decide (0≤i)&&decide (i<(↑s.length:Int)))
      (zc s[i.toNat]? λ b=>
        bif decide (xe (↑b.toNat:Int)<(0:Int)) then some (Out.ret (V.d (D.int .i64 i)),[])
        else
          bif decide ((↑s.length:Int)≤IntKind.i64.wrap (i+xe (↑b.toNat:Int))) then
            bif decide ((0:Int)<xe (↑b.toNat:Int)) then some (Out.ret (V.d (D.int .i64 i)),[])
            else
              zb (decide (0≤i)&&decide (i<(↑s.length:Int)))
                (zc s[i.toNat]? λ b_1=>
                  zb (decide (0≤xe (↑b.toNat:Int))&&decide (xe (↑b.toNat:Int)<(↑4:Int)))
                    (bif (0+(xe (↑b.toNat:Int)).toNat * cx.P.cellsOf 3).beq 0&&false then none
                    else
                      zlu
                        (V.d
                            (D.agg
                              [D.int .i64 (128:Int),D.int .i64 (32:Int),
                                D.int .i64 (16:Int),D.int .i64 (8:Int)])).cells
                        (0+(xe (↑b.toNat:Int)).toNat * cx.P.cellsOf 3) λ c=>
                        match c with
                        | V.d x=>
                          match x with
                          | D.int k' n_1=>
                            bif decide (k'=IntKind.i64) then
                              zb (!decide (n_1=0))
                                (LP cx S15 n 197 0 9 n
                                  [(0,V.d (D.str s)),(3,V.d (D.int .i64 i)),
                                    (4,V.d (D.int .i64 (xe (↑b.toNat:Int)))),
                                    (5,V.d (D.int .i64 (zaa (↑b.toNat:Int)))),
                                    (7,V.d (D.int .i64 ((IntKind.i64.wrap (↑b_1.toNat:Int)).tmod n_1))),
                                    (8,V.d (D.int .i64 (1:Int)))]
                                  [] (AL cx S15 n 197 0 2 9 (inK cx S15 n 197 0 2 k (AK cx S15 n 197 0 2 (EK cx 197 0)))))
                            else none
                          | x=>none
                        | v=>
                          zb
                            (decide (v.aggV=wo cx.P 3) &&
                              !match v with
                                | V.tup l=>true
                                | x=>false)
                            (match V.d (D.int .i64 (IntKind.i64.wrap (↑b_1.toNat:Int))),v with
                            | V.d (D.int k_1 a),V.d (D.int k' b_2)=>
                              bif decide (k_1=k') then
                                zb (!decide (b_2=0))
                                  (LP cx S15 n 197 0 9 n
                                    [(0,V.d (D.str s)),(3,V.d (D.int .i64 i)),
                                      (4,V.d (D.int .i64 (xe (↑b.toNat:Int)))),
                                      (5,V.d (D.int .i64 (zaa (↑b.toNat:Int)))),
                                      (7,V.d (D.int k_1 (a.tmod b_2))),(8,V.d (D.int .i64 (1:Int)))]
                                    [] (AL cx S15 n 197 0 2 9 (inK cx S15 n 197 0 2 k (AK cx S15 n 197 0 2 (EK cx 197 0)))))
                              else none
                            | V.d (D.str a),V.d (D.str b)=>none
                            | V.d (D.bool a),V.d (D.bool b)=>none
                            | V.d (D.iface t x),V.d D.nilIface=>none
                            | V.iface t v,V.d D.nilIface=>none
                            | V.d D.nilIface,V.d D.nilIface=>none
                            | V.ptr id off,V.d D.nilptr=>none
                            | V.d D.nilptr,V.d D.nilptr=>none
                            | x,x_1=>none)))
          else
            zb (decide (0≤i)&&decide (i<(↑s.length:Int)))
              (zc s[i.toNat]? λ b_1=>
                zb (decide (0≤xe (↑b.toNat:Int))&&decide (xe (↑b.toNat:Int)<(↑4:Int)))
                  (bif (0+(xe (↑b.toNat:Int)).toNat * cx.P.cellsOf 3).beq 0&&false then none
                  else
                    zlu
                      (V.d
                          (D.agg
                            [D.int .i64 (128:Int),D.int .i64 (32:Int),
                              D.int .i64 (16:Int),D.int .i64 (8:Int)])).cells
                      (0+(xe (↑b.toNat:Int)).toNat * cx.P.cellsOf 3) λ c=>
                      match c with
                      | V.d x=>
                        match x with
                        | D.int k' n_1=>
                          bif decide (k'=IntKind.i64) then
                            zb (!decide (n_1=0))
                              (LP cx S15 n 197 0 9 n
                                [(0,V.d (D.str s)),(3,V.d (D.int .i64 i)),
                                  (4,V.d (D.int .i64 (xe (↑b.toNat:Int)))),
                                  (5,V.d (D.int .i64 (zaa (↑b.toNat:Int)))),
                                  (7,V.d (D.int .i64 ((IntKind.i64.wrap (↑b_1.toNat:Int)).tmod n_1))),
                                  (8,V.d (D.int .i64 (1:Int)))]
                                [] (AL cx S15 n 197 0 2 9 (inK cx S15 n 197 0 2 k (AK cx S15 n 197 0 2 (EK cx 197 0)))))
                          else none
                        | x=>none
                      | v=>
                        zb
                          (decide (v.aggV=wo cx.P 3) &&
                            !match v with
                              | V.tup l=>true
                              | x=>false)
                          (match V.d (D.int .i64 (IntKind.i64.wrap (↑b_1.toNat:Int))),v with
                          | V.d (D.int k_1 a),V.d (D.int k' b_2)=>
                            bif decide (k_1=k') then
                              zb (!decide (b_2=0))
                                (LP cx S15 n 197 0 9 n
                                  [(0,V.d (D.str s)),(3,V.d (D.int .i64 i)),
                                    (4,V.d (D.int .i64 (xe (↑b.toNat:Int)))),
                                    (5,V.d (D.int .i64 (zaa (↑b.toNat:Int)))),
                                    (7,V.d (D.int k_1 (a.tmod b_2))),(8,V.d (D.int .i64 (1:Int)))]
                                  [] (AL cx S15 n 197 0 2 9 (inK cx S15 n 197 0 2 k (AK cx S15 n 197 0 2 (EK cx 197 0)))))
                            else none
                          | V.d (D.str a),V.d (D.str b)=>none
                          | V.d (D.bool a),V.d (D.bool b)=>none
                          | V.d (D.iface t x),V.d D.nilIface=>none
                          | V.iface t v,V.d D.nilIface=>none
                          | V.d D.nilIface,V.d D.nilIface=>none
                          | V.ptr id off,V.d D.nilptr=>none
                          | V.d D.nilptr,V.d D.nilptr=>none
                          | x,x_1=>none))))
  else some (Out.ret (V.d (D.int .i64 (Int.negSucc 0))),[]):=by kernel_rfl
theorem yeg(n k k':Nat)(s:List UInt8)(i m low q p:Int) :
    LP cx S15 n 197 0 9 (k+1) [(0,.d (.str s)),(3,.d (.int .i64 i)),(4,.d (.int .i64 m)),(5,.d (.int .i64 low)),(7,.d (.int .i64 q)),(8,.d (.int .i64 p))] [] (AL cx S15 n 197 0 2 9 (inK cx S15 n 197 0 2 k' (AK cx S15 n 197 0 2 (EK cx 197 0)))) =
  bif decide (p≤m) then
    zb (decide (0≤IntKind.i64.wrap (i+p))&&decide (IntKind.i64.wrap (i+p)<(↑s.length:Int)))
      (zc s[(IntKind.i64.wrap (i+p)).toNat]? λ b=>
        bif decide (IntKind.i64.wrap (↑b.toNat:Int)<(128:Int)) then
          some (Out.ret (V.d (D.int .i64 i)),[])
        else
          bif decide ((191:Int)<IntKind.i64.wrap (↑b.toNat:Int)) then
            some (Out.ret (V.d (D.int .i64 i)),[])
          else
            LP cx S15 n 197 0 9 k
              [(0,V.d (D.str s)),(3,V.d (D.int .i64 i)),(4,V.d (D.int .i64 m)),
                (5,V.d (D.int .i64 low)),
                (7,
                  V.d
                    (D.int .i64
                      (IntKind.i64.wrap
                        (IntKind.i64.wrap (IntKind.i64.wrap (q * (64:Int))+IntKind.i64.wrap (↑b.toNat:Int)) -
                          (128:Int))))),
                (8,V.d (D.int .i64 (IntKind.i64.wrap (p+(1:Int)))))]
              [] (AL cx S15 n 197 0 2 9 (inK cx S15 n 197 0 2 k' (AK cx S15 n 197 0 2 (EK cx 197 0)))))
  else
    bif decide (q<low) then some (Out.ret (V.d (D.int .i64 i)),[])
    else
      bif decide ((1114111:Int)<q) then some (Out.ret (V.d (D.int .i64 i)),[])
      else
        bif decide ((55296:Int)≤q) then
          bif decide (q≤(57343:Int)) then some (Out.ret (V.d (D.int .i64 i)),[])
          else
            LP cx S15 n 197 0 2 k'
              [(0,V.d (D.str s)),
                (3,V.d (D.int .i64 (IntKind.i64.wrap (IntKind.i64.wrap (i+m)+(1:Int)))))]
              [] (AK cx S15 n 197 0 2 (EK cx 197 0))
        else
          LP cx S15 n 197 0 2 k'
            [(0,V.d (D.str s)),
              (3,V.d (D.int .i64 (IntKind.i64.wrap (IntKind.i64.wrap (i+m)+(1:Int)))))]
            [] (AK cx S15 n 197 0 2 (EK cx 197 0)):=by kernel_rfl
theorem wrapN{x:Int}(h0 : -4611686018427387904≤x)(h1:x≤4711686018427387904):IntKind.i64.wrap x=x:=IntWalk.i64_in _ (by omega)
theorem zh6(b:UInt8):b.toNat<256:=b.toNat_lt
abbrev frI(s:List UInt8)(i m low q p:Int):Fr:=[(0,.d (.str s)),(3,.d (.int .i64 i)),(4,.d (.int .i64 m)),(5,.d (.int .i64 low)),(7,.d (.int .i64 q)),(8,.d (.int .i64 p))]
theorem z57{s:List UInt8}(hs:s.length≤4611686018427387904){n k k' j p:Nat}{m low q:Int}{c:UInt8}(hp:(p:Int)≤m)(hm:m≤3)(hg:s[j+p]?=some c)(hq:0≤q)(hq2:q≤100000000) :
  LP cx S15 n 197 0 9 (k+1) (frI s j m low q p) [] (AL cx S15 n 197 0 2 9 (inK cx S15 n 197 0 2 k' (AK cx S15 n 197 0 2 (EK cx 197 0)))) =
  bif yv c then LP cx S15 n 197 0 9 k (frI s j m low (q * 64+c.toNat - 128) ((p+1:Nat):Int)) [] (AL cx S15 n 197 0 2 9 (inK cx S15 n 197 0 2 k' (AK cx S15 n 197 0 2 (EK cx 197 0))))
  else some (.ret (.d (.int .i64 (j:Int))),[]):=by
 have hlt:j+p<s.length:=(pn.1 hg).1;have hc:=zh6 c;rw [yeg];have w1:IntKind.i64.wrap ((j:Int)+(p:Int))=((j+p:Nat):Int):=by rw [wrapN (by omega) (by omega)]; omega
 have w2:IntKind.i64.wrap (c.toNat:Int)=c.toNat:=wrapN (by omega) (by omega)
 have w3:IntKind.i64.wrap (q * 64)=q * 64:=wrapN (by omega) (by omega)
 have w4:IntKind.i64.wrap (q * 64+(c.toNat:Int))=q * 64+c.toNat:=wrapN (by omega) (by omega)
 have w5:IntKind.i64.wrap (q * 64+(c.toNat:Int) - 128)=q * 64+c.toNat - 128:=wrapN (by omega) (by omega)
 have w6:IntKind.i64.wrap ((p:Int)+1)=((p+1:Nat):Int):=by rw [wrapN (by omega) (by omega)]; omega
 simp only [w1,w2,w3,w4,w5,w6,pa hp,pa (p:=(0:Int)≤((j+p:Nat):Int)) (by omega),pa (p:=((j+p:Nat):Int)<(s.length:Int)) (by omega),Bool.and_self,zb,pw,po,hg,zc]
 unfold yv;by_cases h1:(c.toNat:Int)<128
 ·rw [pa h1,pb (p:=128≤c.toNat) (by omega)]; rfl
 ·rw [pb h1,pa (p:=128≤c.toNat) (by omega)]
  by_cases h2:(191:Int)<(c.toNat:Int)
  ·rw [pa h2,pb (p:=c.toNat≤191) (by omega)]; rfl
  ·rw [pb h2,pa (p:=c.toNat≤191) (by omega)]; rfl
abbrev z1e:D:=.agg [.int .i64 128,.int .i64 32,.int .i64 16,.int .i64 8]
theorem yew{R:Type}(F:V→Option R):zlu (V.d z1e).cells (0+(0:Int).toNat * cx.P.cellsOf 3) F=F (.d (.int .i64 128)):=by kernel_rfl
theorem yev{R:Type}(F:V→Option R):zlu (V.d z1e).cells (0+(1:Int).toNat * cx.P.cellsOf 3) F=F (.d (.int .i64 32)):=by kernel_rfl
theorem yeu{R:Type}(F:V→Option R):zlu (V.d z1e).cells (0+(2:Int).toNat * cx.P.cellsOf 3) F=F (.d (.int .i64 16)):=by kernel_rfl
theorem yet{R:Type}(F:V→Option R):zlu (V.d z1e).cells (0+(3:Int).toNat * cx.P.cellsOf 3) F=F (.d (.int .i64 8)):=by kernel_rfl
theorem zdu{s:List UInt8}(hs:s.length≤4611686018427387904){n k j:Nat}{b:UInt8}(hg:s[j]?=some b)(h:xe b.toNat<0∨(0<xe b.toNat∧xe b.toNat≤3∧(s.length:Int)≤j+xe b.toNat)) :
  LP cx S15 n 197 0 2 (k+1) [(0,.d (.str s)),(3,.d (.int .i64 (j:Int)))] [] (AK cx S15 n 197 0 2 (EK cx 197 0))=some (.ret (.d (.int .i64 (j:Int))),[]):=by
 have hlt:j<s.length:=(pn.1 hg).1;rw [l15];simp only [pa (p:=(j:Int)<(s.length:Int)) (by omega),pa (p:=(0:Int)≤(j:Int)) (by omega),Bool.and_self,zb,pw,po,hg,zc]
 rcases h with h | ⟨h1,h2,h3⟩
 ·rw [pa h]; rfl
 ·rw [pb (p:=xe b.toNat<0) (by omega),wrapN (x:=(j:Int)+xe b.toNat) (by omega) (by omega),pa h3,pa h1]; rfl
theorem zls{s:List UInt8}(hs:s.length≤4611686018427387904){n k j:Nat}{b:UInt8}{m:Int}(hg:s[j]?=some b)(hm:xe b.toNat=m)(h0:0≤m)(h3:m≤3)(hle:(j:Int)+m<s.length) :
  LP cx S15 n 197 0 2 (k+1) [(0,.d (.str s)),(3,.d (.int .i64 (j:Int)))] [] (AK cx S15 n 197 0 2 (EK cx 197 0)) =
  LP cx S15 n 197 0 9 n (frI s j m (zaa b.toNat) ((b.toNat:Int) % (if m=0 then 128 else if m=1 then 32 else if m=2 then 16 else 8)) 1) [] (AL cx S15 n 197 0 2 9 (inK cx S15 n 197 0 2 k (AK cx S15 n 197 0 2 (EK cx 197 0)))):=by
 have hlt:j<s.length:=(pn.1 hg).1;have hb:=zh6 b;have wb:IntKind.i64.wrap (b.toNat:Int)=b.toNat:=wrapN (by omega) (by omega)
 rw [l15]
 simp only [pa (p:=(j:Int)<(s.length:Int)) (by omega),pa (p:=(0:Int)≤(j:Int)) (by omega),Bool.and_self,zb,pw,po,hg,zc,hm,
  pb (p:=m<0) (by omega),px,wrapN (x:=(j:Int)+m) (by omega) (by omega),pb (p:=(s.length:Int)≤(j:Int)+m) (by omega),pa h0,
  pa (p:=m<((4:Nat):Int)) (by omega),Bool.and_false,wb]
 have hk:∀ d:Int,0<d→(b.toNat:Int).tmod d=(b.toNat:Int) % d:=λ d _=>Int.tmod_eq_emod_of_nonneg (by omega)
 obtain rfl | rfl | rfl | rfl:m=0∨m=1∨m=2∨m=3:=by omega
 ·rw [yew]; simp [hk]
 ·rw [yev]; simp [hk]
 ·rw [yeu]; simp [hk]
 ·rw [yet]; simp [hk]
abbrev frO(s:List UInt8)(i:Int):Fr:=[(0,.d (.str s)),(3,.d (.int .i64 i))]
theorem zjz{s:List UInt8}(hs:s.length≤4611686018427387904){n k k' j:Nat}{m low q p:Int}(hj:j≤s.length)(h0:0≤m)(h3:m≤3)(hp:m<p) :
  LP cx S15 n 197 0 9 (k+1) (frI s j m low q p) [] (AL cx S15 n 197 0 2 9 (inK cx S15 n 197 0 2 k' (AK cx S15 n 197 0 2 (EK cx 197 0)))) =
  bif decide (low≤q)&&decide (q≤1114111)&&!(decide (55296≤q)&&decide (q≤57343)) then LP cx S15 n 197 0 2 k' (frO s ((j:Int)+m+1)) [] (AK cx S15 n 197 0 2 (EK cx 197 0))
  else some (.ret (.d (.int .i64 (j:Int))),[]):=by
 rw [yeg];rw [pb (p:=p≤m) (by omega),px,wrapN (x:=(j:Int)+m) (by omega) (by omega),wrapN (x:=(j:Int)+m+1) (by omega) (by omega)]
 by_cases h1:q<low
 ·rw [pa h1,pb (p:=low≤q) (by omega)]; rfl
 ·rw [pb h1,pa (p:=low≤q) (by omega),px]
  by_cases h2:1114111<q
  ·rw [pa h2,pb (p:=q≤1114111) (by omega)]; rfl
  ·rw [pb h2,pa (p:=q≤1114111) (by omega),px]
   cases decide ((55296:Int)≤q) <;> cases decide (q≤(57343:Int)) <;> rfl
theorem zi6{b:UInt8}:xe b.toNat=if b.toNat<128 then 0 else if 194≤b.toNat∧b.toNat≤223 then 1 else if 224≤b.toNat∧b.toNat≤239 then 2 else if 240≤b.toNat∧b.toNat≤244 then 3 else -1:=by
 unfold xe;by_cases h1:b.toNat<128
 ·rw [pa (p:=(b.toNat:Int)<128) (by omega),if_pos h1]; rfl
 ·rw [pb (p:=(b.toNat:Int)<128) (by omega),if_neg h1,px]
  simp only [Bool.cond_eq_ite,pm,decide_eq_true_eq];congr 1
  ·exact propext ⟨λ h=>by omega,λ h=>by omega⟩
  ·congr 1
   ·exact propext ⟨λ h=>by omega,λ h=>by omega⟩
   ·congr 1;exact propext ⟨λ h=>by omega,λ h=>by omega⟩
theorem zl0{b:UInt8}:zaa b.toNat=if b.toNat<128 then 0 else if 194≤b.toNat∧b.toNat≤223 then 128 else if 224≤b.toNat∧b.toNat≤239 then 2048 else if 240≤b.toNat∧b.toNat≤244 then 65536 else 0:=by
 unfold zaa;by_cases h1:b.toNat<128
 ·rw [pa (p:=(b.toNat:Int)<128) (by omega),if_pos h1]; rfl
 ·rw [pb (p:=(b.toNat:Int)<128) (by omega),if_neg h1,px]
  simp only [Bool.cond_eq_ite,pm,decide_eq_true_eq];congr 1
  ·exact propext ⟨λ h=>by omega,λ h=>by omega⟩
  ·congr 1
   ·exact propext ⟨λ h=>by omega,λ h=>by omega⟩
   ·congr 1;exact propext ⟨λ h=>by omega,λ h=>by omega⟩
theorem drop_at{s:List UInt8}{j i:Nat}{l:List UInt8}(h:s.drop j=l):s[j+i]?=l[i]?:=by
 rw [←h,List.getElem?_drop]
theorem ze9{s:List UInt8}(hs:s.length≤4611686018427387904){n k k' j:Nat}{m low q P P':Int}{c:UInt8}(p:Nat)(hP:P=p)(hP':P'=P+1)(hp:P≤m)(hm:m≤3)(hg:s[j+p]?=some c)(hq:0≤q)(hq2:q≤100000000) :
  LP cx S15 n 197 0 9 (k+1) (frI s j m low q P) [] (AL cx S15 n 197 0 2 9 (inK cx S15 n 197 0 2 k' (AK cx S15 n 197 0 2 (EK cx 197 0)))) =
  bif yv c then LP cx S15 n 197 0 9 k (frI s j m low (q * 64+c.toNat - 128) P') [] (AL cx S15 n 197 0 2 9 (inK cx S15 n 197 0 2 k' (AK cx S15 n 197 0 2 (EK cx 197 0))))
  else some (.ret (.d (.int .i64 (j:Int))),[]):=by
 subst hP';subst hP;rw [z57 hs hp hm hg hq hq2];rfl
theorem zzd{b c:UInt8}(_:True)(hc:yv c=false):(decide ((bif decide (b.toNat=224) then 160 else 128)≤c.toNat)&&decide (c.toNat≤(bif decide (b.toNat=237) then 159 else 191)))=false:=by
 have hc' : ¬ (128≤c.toNat∧c.toNat≤191):=by
  intro h; rw [yv,pa h.1,pa h.2] at hc; cases hc
 rw [Bool.eq_false_iff];intro hh;simp only [pm,decide_eq_true_eq,Bool.cond_eq_ite] at hh;apply hc';split at hh <;> split at hh <;> omega
theorem zxf{b c:UInt8}(_:True)(hc:yv c=false):(decide ((bif decide (b.toNat=240) then 144 else 128)≤c.toNat)&&decide (c.toNat≤(bif decide (b.toNat=244) then 143 else 191)))=false:=by
 have hc' : ¬ (128≤c.toNat∧c.toNat≤191):=by
  intro h; rw [yv,pa h.1,pa h.2] at hc; cases hc
 rw [Bool.eq_false_iff];intro hh;simp only [pm,decide_eq_true_eq,Bool.cond_eq_ite] at hh;apply hc';split at hh <;> split at hh <;> omega
theorem yfh{b c d:UInt8}(hb:224≤b.toNat∧b.toNat≤239)(hc:128≤c.toNat∧c.toNat≤191)(hd:128≤d.toNat∧d.toNat≤191) :
  (decide (2048≤((b.toNat:Int) % 16 * 64+c.toNat - 128) * 64+d.toNat - 128)&&decide (((b.toNat:Int) % 16 * 64+c.toNat - 128) * 64+d.toNat - 128≤1114111)&&!(decide (55296≤((b.toNat:Int) % 16 * 64+c.toNat - 128) * 64+d.toNat - 128)&&decide (((b.toNat:Int) % 16 * 64+c.toNat - 128) * 64+d.toNat - 128≤57343))) =
  (decide ((bif decide (b.toNat=224) then 160 else 128)≤c.toNat)&&decide (c.toNat≤(bif decide (b.toNat=237) then 159 else 191))):=by
 rw [Bool.eq_iff_iff];simp only [pm,decide_eq_true_eq,Bool.cond_eq_ite,Bool.not_eq_true',Bool.and_eq_false_iff,decide_eq_false_iff_not];split <;> split <;> constructor <;> intro h <;> omega
theorem yfg{b c d e:UInt8}(hb:240≤b.toNat∧b.toNat≤244)(hc:128≤c.toNat∧c.toNat≤191)(hd:128≤d.toNat∧d.toNat≤191)(he:128≤e.toNat∧e.toNat≤191) :
  (decide (65536≤(((b.toNat:Int) % 8 * 64+c.toNat - 128) * 64+d.toNat - 128) * 64+e.toNat - 128)&&decide ((((b.toNat:Int) % 8 * 64+c.toNat - 128) * 64+d.toNat - 128) * 64+e.toNat - 128≤1114111)&&!(decide (55296≤(((b.toNat:Int) % 8 * 64+c.toNat - 128) * 64+d.toNat - 128) * 64+e.toNat - 128)&&decide ((((b.toNat:Int) % 8 * 64+c.toNat - 128) * 64+d.toNat - 128) * 64+e.toNat - 128≤57343))) =
  (decide ((bif decide (b.toNat=240) then 144 else 128)≤c.toNat)&&decide (c.toNat≤(bif decide (b.toNat=244) then 143 else 191))):=by
 rw [Bool.eq_iff_iff];simp only [pm,decide_eq_true_eq,Bool.cond_eq_ite,Bool.not_eq_true',Bool.and_eq_false_iff,decide_eq_false_iff_not];split <;> split <;> constructor <;> intro h <;> omega
theorem z4i{s:List UInt8}(hs:s.length≤4611686018427387904){n k j:Nat}(hn:5≤n){b:UInt8}{r:List UInt8}(hd:s.drop j=b::r) :
  LP cx S15 n 197 0 2 (k+1) (frO s (j:Int)) [] (AK cx S15 n 197 0 2 (EK cx 197 0)) =
  bif Nat.beq (yc (b::r)) 0 then some (.ret (.d (.int .i64 (j:Int))),[]) else LP cx S15 n 197 0 2 k (frO s ((j+yc (b::r):Nat):Int)) [] (AK cx S15 n 197 0 2 (EK cx 197 0)):=by
 obtain ⟨h1,hg,_⟩:=drop_cons hd;have hb:=zh6 b;have hlen:(b::r).length=s.length - j:=by rw [←hd]; simp
 obtain ⟨n,rfl⟩:∃ i,n=i+5:=⟨n - 5,by omega⟩
 by_cases c0:b.toNat<128
 ·have hN:xe b.toNat=0:=by rw [zi6,if_pos c0]
  have hL:zaa b.toNat=0:=by rw [zl0,if_pos c0]
  have hu:yc (b::r)=1:=by simp only [yc,pa c0,pw]
  rw [zls hs hg hN (by omega) (by omega) (by omega),hL,zjz hs (by omega) (by omega) (by omega) (by omega),hu]
  simp only [if_true];rw [pa (p:=(0:Int)≤(b.toNat:Int) % 128) (by omega),pa (p:=(b.toNat:Int) % 128≤1114111) (by omega),pb (p:=55296≤(b.toNat:Int) % 128) (by omega)]
  simp;rfl
 ·by_cases c1:194≤b.toNat∧b.toNat≤223
  ·have hN:xe b.toNat=1:=by rw [zi6,if_neg c0,if_pos c1]
   have hL:zaa b.toNat=128:=by rw [zl0,if_neg c0,if_pos c1]
   cases r with
   | nil=>
    have hu:yc [b]=0:=by simp only [yc,pb c0,pa c1.1,pa c1.2,px,pw,Bool.and_self]
    rw [zdu hs hg (.inr ⟨by omega,by omega,by simp at hlen; omega⟩),hu]; rfl
   | cons c r=>
    have hu:yc (b::c::r)=bif yv c then 2 else 0:=by simp only [yc,pb c0,pa c1.1,pa c1.2,px,pw,Bool.and_self]
    have hc:=zh6 c;rw [zls hs hg hN (by omega) (by omega) (by simp at hlen; omega),hL,hu]
    simp only [if_true,show ¬ (1:Int)=0 by omega,if_false]
    rw [ze9 (P:=1) (P':=2) hs 1 rfl rfl (by omega) (by omega) ((drop_at hd).trans rfl) (by omega) (by omega)]
    cases hcc:yv c
    ·rfl
    ·simp only [yv,pm,decide_eq_true_eq] at hcc;rw [pw,zjz hs (by omega) (by omega) (by omega) (by omega)]
     rw [pa (p:=(128:Int)≤(b.toNat:Int) % 32 * 64+c.toNat - 128) (by omega),pa (p:=(b.toNat:Int) % 32 * 64+c.toNat - 128≤1114111) (by omega),
      pb (p:=55296≤(b.toNat:Int) % 32 * 64+c.toNat - 128) (by omega),show (j:Int)+1+1=((j+2:Nat):Int) by omega]
     rfl
  ·by_cases c2:224≤b.toNat∧b.toNat≤239
   ·have hN:xe b.toNat=2:=by rw [zi6,if_neg c0,if_neg c1,if_pos c2]
    have hL:zaa b.toNat=2048:=by rw [zl0,if_neg c0,if_neg c1,if_pos c2]
    have f1:(decide (194≤b.toNat)&&decide (b.toNat≤223))=false:=by rw [pb (p:=b.toNat≤223) (by omega),Bool.and_false]
    match r,hd,hlen with
    | [],hd,hlen=>
     have hu:yc [b]=0:=by simp only [yc,pb c0,f1,pa c2.1,pa c2.2,px,pw,Bool.and_self]
     rw [zdu hs hg (.inr ⟨by omega,by omega,by simp at hlen; omega⟩),hu]; rfl
    | [c],hd,hlen=>
     have hu:yc [b,c]=0:=by simp only [yc,pb c0,f1,pa c2.1,pa c2.2,px,pw,Bool.and_self]
     rw [zdu hs hg (.inr ⟨by omega,by omega,by simp at hlen; omega⟩),hu]; rfl
    | c::d::r,hd,hlen=>
     have hu:yc (b::c::d::r)=bif decide ((bif decide (b.toNat=224) then 160 else 128)≤c.toNat)&&decide (c.toNat≤(bif decide (b.toNat=237) then 159 else 191))&&yv d then 3 else 0:=by
      simp only [yc,pb c0,f1,pa c2.1,pa c2.2,px,pw,Bool.and_self]
     have hc:=zh6 c;have hdd:=zh6 d;rw [zls hs hg hN (by omega) (by omega) (by simp at hlen; omega),hL,hu]
     simp only [if_true,show ¬ (2:Int)=0 by omega,show ¬ (2:Int)=1 by omega,if_false]
     rw [ze9 (P:=1) (P':=2) hs 1 rfl rfl (by omega) (by omega) ((drop_at hd).trans rfl) (by omega) (by omega)]
     cases hcc:yv c
     ·rw [px,zzd trivial hcc]; rfl
     ·rw [pw];have hcc':=hcc;simp only [yv,pm,decide_eq_true_eq] at hcc';rw [ze9 (P:=2) (P':=3) hs 2 rfl rfl (by omega) (by omega) ((drop_at hd).trans rfl) (by omega) (by omega)]
      cases hcd:yv d
      ·rw [Bool.and_false]; rfl
      ·have hcd':=hcd;simp only [yv,pm,decide_eq_true_eq] at hcd';rw [pw,zjz hs (by omega) (by omega) (by omega) (by omega),yfh c2 hcc' hcd',Bool.and_true,show (j:Int)+2+1=((j+3:Nat):Int) by omega]
       cases (decide ((bif decide (b.toNat=224) then 160 else 128)≤c.toNat)&&decide (c.toNat≤(bif decide (b.toNat=237) then 159 else 191))) <;> rfl
   ·by_cases c3:240≤b.toNat∧b.toNat≤244
    ·have hN:xe b.toNat=3:=by rw [zi6,if_neg c0,if_neg c1,if_neg c2,if_pos c3]
     have hL:zaa b.toNat=65536:=by rw [zl0,if_neg c0,if_neg c1,if_neg c2,if_pos c3]
     have f1:(decide (194≤b.toNat)&&decide (b.toNat≤223))=false:=by rw [pb (p:=b.toNat≤223) (by omega),Bool.and_false]
     have f2:(decide (224≤b.toNat)&&decide (b.toNat≤239))=false:=by rw [pb (p:=b.toNat≤239) (by omega),Bool.and_false]
     match r,hd,hlen with
     | [],hd,hlen=>
      have hu:yc [b]=0:=by simp only [yc,pb c0,f1,f2,pa c3.1,pa c3.2,px,pw,Bool.and_self]
      rw [zdu hs hg (.inr ⟨by omega,by omega,by simp at hlen; omega⟩),hu]; rfl
     | [c],hd,hlen=>
      have hu:yc [b,c]=0:=by simp only [yc,pb c0,f1,f2,pa c3.1,pa c3.2,px,pw,Bool.and_self]
      rw [zdu hs hg (.inr ⟨by omega,by omega,by simp at hlen; omega⟩),hu]; rfl
     | [c,d],hd,hlen=>
      have hu:yc [b,c,d]=0:=by simp only [yc,pb c0,f1,f2,pa c3.1,pa c3.2,px,pw,Bool.and_self]
      rw [zdu hs hg (.inr ⟨by omega,by omega,by simp at hlen; omega⟩),hu]; rfl
     | c::d::e::r,hd,hlen=>
      have hu:yc (b::c::d::e::r)=bif decide ((bif decide (b.toNat=240) then 144 else 128)≤c.toNat)&&decide (c.toNat≤(bif decide (b.toNat=244) then 143 else 191))&&yv d&&yv e then 4 else 0:=by
       simp only [yc,pb c0,f1,f2,pa c3.1,pa c3.2,px,pw,Bool.and_self]
      have hc:=zh6 c;have hdd:=zh6 d;have hee:=zh6 e;rw [zls hs hg hN (by omega) (by omega) (by simp at hlen; omega),hL,hu]
      simp only [if_true,show ¬ (3:Int)=0 by omega,show ¬ (3:Int)=1 by omega,show ¬ (3:Int)=2 by omega,if_false]
      rw [ze9 (P:=1) (P':=2) hs 1 rfl rfl (by omega) (by omega) ((drop_at hd).trans rfl) (by omega) (by omega)]
      cases hcc:yv c
      ·rw [px,zxf trivial hcc]; rfl
      ·rw [pw];have hcc':=hcc;simp only [yv,pm,decide_eq_true_eq] at hcc';rw [ze9 (P:=2) (P':=3) hs 2 rfl rfl (by omega) (by omega) ((drop_at hd).trans rfl) (by omega) (by omega)]
       cases hcd:yv d
       ·rw [Bool.and_false]; rfl
       ·have hcd':=hcd;simp only [yv,pm,decide_eq_true_eq] at hcd';rw [pw,ze9 (P:=3) (P':=4) hs 3 rfl rfl (by omega) (by omega) ((drop_at hd).trans rfl) (by omega) (by omega)]
        cases hce:yv e
        ·rw [Bool.and_false]; rfl
        ·have hce':=hce;simp only [yv,pm,decide_eq_true_eq] at hce';rw [pw,zjz hs (by omega) (by omega) (by omega) (by omega),yfg c3 hcc' hcd' hce',Bool.and_true,Bool.and_true,show (j:Int)+3+1=((j+4:Nat):Int) by omega]
         cases (decide ((bif decide (b.toNat=240) then 144 else 128)≤c.toNat)&&decide (c.toNat≤(bif decide (b.toNat=244) then 143 else 191))) <;> rfl
    ·have hN:xe b.toNat = -1:=by rw [zi6,if_neg c0,if_neg c1,if_neg c2,if_neg c3]
     have hu:yc (b::r)=0:=by
      have f1:(decide (194≤b.toNat)&&decide (b.toNat≤223))=false:=by simp; omega
      have f2:(decide (224≤b.toNat)&&decide (b.toNat≤239))=false:=by simp; omega
      have f3:(decide (240≤b.toNat)&&decide (b.toNat≤244))=false:=by simp; omega
      simp only [yc,pb c0,f1,f2,f3,px]
     rw [zdu hs hg (.inl (by omega)),hu]; rfl
theorem z7s{s:List UInt8}(hs:s.length≤4611686018427387904){n:Nat}(hn:5≤n):∀ (f j k:Nat),s.length - j≤f→f<k→j≤s.length →
  LP cx S15 n 197 0 2 k (frO s (j:Int)) [] (AK cx S15 n 197 0 2 (EK cx 197 0))=some (.ret (.d (.int .i64 (match qb f (s.drop j) j with | some p=>(p:Int) | none=>-1))),[]):=by
 intro f
 induction f with
 | zero=>
  intro j k h hk hj;obtain ⟨k,rfl⟩:∃ i,k=i+1:=⟨k - 1,by omega⟩
  have hnil:s.drop j=[]:=List.drop_eq_nil_of_le (by omega)
  rw [l15,hnil,pb (p:=(j:Int)<(s.length:Int)) (by omega)]; rfl
 | succ f ih=>
  intro j k h hk hj;obtain ⟨k,rfl⟩:∃ i,k=i+1:=⟨k - 1,by omega⟩
  cases hd:s.drop j with
  | nil=>
   have:=List.drop_eq_nil_iff.1 hd;rw [l15,pb (p:=(j:Int)<(s.length:Int)) (by omega)]; rfl
  | cons b r=>
   obtain ⟨h1,hg,_⟩:=drop_cons hd;rw [z4i hs hn hd];have hle:=zyi (b::r);have hlen:(b::r).length=s.length - j:=by rw [←hd]; simp
   by_cases hu:yc (b::r)=0
   ·simp only [qb,hu]; rfl
   ·have hbq:Nat.beq (yc (b::r)) 0=false:=zk7 hu;have step:=ih (j+yc (b::r)) k (by omega) (by omega) (by omega)
    rw [←List.drop_drop,hd] at step;simp only [qb,hbq,px];exact step
theorem yd4(s:List UInt8)(hs:s.length≤4611686018427387904):zj cx 197 [.d (.str s)] []=some (.ret (.d (.int .i64 (match qb s.length s 0 with | some p=>(p:Int) | none=>-1))),[]):=by
 refine wy (N:=s.length+5) z3q ?_;rw [b15];exact z7s hs (by omega) s.length 0 (s.length+5) (by omega) (by omega) (by omega)
end Go.Vai
end
