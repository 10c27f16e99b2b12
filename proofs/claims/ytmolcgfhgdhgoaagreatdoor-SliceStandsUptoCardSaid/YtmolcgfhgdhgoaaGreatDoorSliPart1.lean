/-
  The library's functions that are taken as one step: what they do. To: Lex: the reference: is it a text? The whole.
-/
import Derived.Test.YtmolcgfhgdhgoaaGreatDoorVaiPart6
import Derived.Lib.Join
import Derived.Test.YtmolcgfhgdhgoaaGreatDoorCards
import Derived.Test.YtmolcgfhgdhgoaaGreatDoorTie
import Derived.KernelRfl
import Derived.IntWalk
set_option linter.all false
noncomputable section
namespace Go.Vai
def zl6(b:UInt8):D:=.int .u8 b.toNat
def zdv:List D→Option (List UInt8)
 | []=>some []
 | .int .u8 n::r=>bif decide (((UInt8.ofNat n.toNat).toNat:Int)=n) then (match zdv r with | some l=>some (UInt8.ofNat n.toNat::l) | none=>none) else none
 | _=>none
theorem zw4(s:List UInt8):zdv (s.map zl6)=some s:=by
 induction s with
 | nil=>rfl
 | cons b r ih=>simp [zdv,zl6,ih]
theorem zor:∀ (l:List D) (s:List UInt8),zdv l=some s→l=s.map zl6
 | [],s,h=>by simp [zdv] at h; subst h; rfl
 | x::r,s,h=>by
  unfold zdv at h;split at h
  ·rename_i he; cases he
  ·rename_i n q he;cases he;cases hd:decide (((UInt8.ofNat n.toNat).toNat:Int)=n) <;> rw [hd] at h
   ·cases h
   ·simp only [cond_true] at h;split at h
    ·rename_i l hl;cases h;have:=pc hd;rw [zor r l hl,List.map_cons,zl6,this]
    ·cases h
  ·cases h
def z6n:List V→Option Nat | [.ptr i 0]=>some i | _=>none
def z1l:Option Ob→Option (Nat×List D×Nat) | some (.val _ (.agg (_::.sl sz l id::_)))=>some (sz,l,id) | _=>none
def z1f:Option Ob→Option Nat | some (.tok k)=>some k | _=>none
theorem zy4{a:List V}{i:Nat}(h:z6n a=some i):a=[.ptr i 0]:=by
 unfold z6n at h;split at h
 ·cases h; rfl
 ·cases h
theorem zvp{o:Option Ob}{q:Nat×List D×Nat}(h:z1l o=some q):∃ n p r,o=some (.val n (.agg (p::.sl q.1 q.2.1 q.2.2::r))):=by
 unfold z1l at h;split at h
 ·cases h; exact ⟨_,_,_,rfl⟩
 ·cases h
theorem zvk{o:Option Ob}{k:Nat}(h:z1f o=some k):o=some (.tok k):=by
 unfold z1f at h;split at h
 ·cases h; rfl
 ·cases h
def zkv(args:List V)(σ:St):Option (Out×St):=
 zd (z6n args) λ i=>zd (z1l (zg σ i)) λ q=>zd (z1f (zg σ q.2.2)) λ k=>
  za (Nat.beq q.1 6291457&&decide (k=q.2.1.length)&&decide (q.2.1.length≤4294967296)) (zd (zdv q.2.1) λ s=>some (.ret (.d (.str s)),vk σ q.2.2 (.tok (k+1))))
def zlk:List D→Option (List (List UInt8))
 | []=>some []
 | .str s::r=>(match zlk r with | some l=>some (s::l) | none=>none)
 | _=>none
theorem zyu(l:List (List UInt8)):zlk (l.map .str)=some l:=by
 induction l with
 | nil=>rfl
 | cons b r ih=>simp [zlk,ih]
theorem zkk:∀ (l:List D) (s:List (List UInt8)),zlk l=some s→l=s.map .str
 | [],s,h=>by simp [zlk] at h; subst h; rfl
 | x::r,s,h=>by
  unfold zlk at h;split at h
  ·rename_i he; cases he
  ·rename_i n q he;cases he;split at h
   ·rename_i l hl;cases h;rw [zkk r l hl,List.map_cons]
   ·cases h
  ·cases h
def zjy(args:List V)(σ:St):Option (Out×St):=
 match args with
 | [.d (.sl _ xs),.d (.str sep)]=>zd (zlk xs) λ l=>za (decide (l.length≤140737488355328)&&decide ((Lib.join l sep).length≤140737488355328)) (some (.ret (.d (.str (Lib.join l sep))),σ))
 | _=>none
def zg2(x:Int):List Int→List Int
 | []=>[x]
 | y::r=>bif decide (x≤y) then x::y::r else y::zg2 x r
def wn:List Int→List Int
 | []=>[]
 | x::r=>zg2 x (wn r)
def zj1:List D→Option (List Int)
 | []=>some []
 | .int .i64 n::r=>(match zj1 r with | some l=>some (n::l) | none=>none)
 | _=>none
def zjx(args:List V)(σ:St):Option (Out×St):=
 match args with
 | [.slo i 1 k]=>(match zg σ i with
   | some (.row l)=>za (Nat.beq k l.length&&decide (l.length≤4294967296)&&!l.isEmpty) (zd (zj1 l) λ zs=>some (.ret (.tup []),vk σ i (.row ((wn zs).map (.int .i64)))))
   | _=>none)
 | _=>none
def znf(args:List V)(σ:St):Option (Out×St):=
 match args with
 | [.d (.sl 1 l)]=>za (decide (l.length≤4294967296)) (zd (zlk l) λ _=>some (.ret (.d (.sl 1 l)),σ))
 | _=>none
def nat(f:Nat)(args:List V)(σ:St):Option (Out×St):=
 bif Nat.beq f 164 then zkv args σ else bif Nat.beq f 192 then zjy args σ else bif Nat.beq f 49 then zjx args σ else bif Nat.beq f 99 then znf args σ else none
open Go.Proofs
def z86:List (Nat×List (Nat×List Nat)):=[(3,[(0,[0,1,2,3]),(2,[0,1,2,3,39,40,41]),(13,[0,1,2,3,39,40,41])]),
 (7,[(0,[5]),(2,[0,1,5,7,59,60,61]),(4,[0,1,5,7,10,11,59,60,61]),(6,[0,1,5,7,10,11,59,60,61,80,81,82]),(8,[0,1,5,7,59,60,61]),(10,[0,1,5,7,59,60,61,111,112,113]),(21,[0,1,5,7,59,60,61]),(33,[0,1,5,7,10,11,59,60,61,80,81,82]),(47,[0,1,5,7,59,60,61,111,112,113])]),
 (8,[(0,[0,7]),(2,[0,5,7,51,52,53]),(4,[0,5,7,9,51,52,53]),(6,[0,5,7,9,51,52,53,73,74,75]),(27,[0,5,7,51,52,53]),(37,[0,5,7,9,51,52,53,73,74,75])]),
 (13,[(0,[]),(2,[0,3,4,5]),(9,[0,3,4,5])]),
 (15,[(0,[1,2,3])]),
 (16,[(0,[2,3]),(2,[2,3,5]),(4,[]),(6,[2,3,6]),(9,[2,3,5]),(19,[2,3,6])]),
 (19,[(0,[9]),(2,[6,9,10,11]),(4,[6,9,10,11]),(6,[6,9,10,11,42,43,44]),(21,[6,9,10,11]),(27,[6,9,10,11,42,43,44])]),
 (20,[(0,[0,6,8,9]),(2,[0,1,6,8,9,10]),(4,[0,8]),(6,[0,6,8,11]),(8,[0,6,8,11]),(10,[0,6,8,11,12]),(12,[0,6,8,11,12]),(14,[0,6,8,11,12,13]),(15,[0,1,6,8,9,10]),(16,[14]),(18,[0,8,14,15]),(29,[0,6,8,11]),(35,[0,6,8,11,12]),(41,[0,6,8,11,12,13]),(55,[0,8,14,15])]),
 (21,[(0,[6]),(2,[4,6,20,21]),(4,[4,6,7,8,20,21]),(6,[4,6,7,8,20,21,24,25,26]),(13,[4,6,20,21]),(21,[4,6,7,8,20,21,24,25,26])]),
 (22,[(0,[6]),(2,[0,4,6,7]),(4,[0,4,6,7,8]),(6,[0,4,6,7,8,9]),(13,[0,4,6,7]),(21,[0,4,6,7,8,9])]),
 (23,[(0,[]),(2,[0,1,5]),(9,[0,1,5])]),
 (24,[(0,[6]),(2,[4,6,22,23,24]),(4,[4,6,9,22,23,24]),(6,[4,6,9,22,23,24,30,31,32]),(13,[4,6,22,23,24]),(21,[4,6,9,22,23,24,30,31,32])]),
 (25,[(0,[]),(2,[1,7,8,9]),(5,[1,7,8,9])]),
 (26,[(0,[6]),(2,[0,6,7,8]),(15,[0,6,7,8])]),
 (27,[(0,[]),(2,[0,11,12]),(4,[0,3,4,11,12]),(5,[0,11,12]),(6,[0,3,4,11,12,19,20,21]),(8,[0,11,12]),(10,[0,3,4,7,11,12]),(12,[0,3,4,7,11,12]),(13,[0,3,4,11,12,19,20,21]),(14,[0,3,4,7,11,12,48,49,50]),(23,[0,3,4,7,11,12]),(33,[0,3,4,7,11,12,48,49,50])]),
 (28,[(0,[1,2,5]),(2,[1,2,5,6]),(4,[5]),(6,[1,2,5,7]),(11,[1,2,5,6]),(23,[1,2,5,7])]),
 (29,[(0,[5]),(2,[0,5,6]),(4,[0,5,6,7]),(6,[0,5,6,7,8]),(13,[0,5,6]),(21,[0,5,6,7,8])]),
 (32,[(0,[]),(2,[0,1,5]),(4,[0,1,5]),(6,[0,1,5,6]),(9,[0,1,5]),(19,[0,1,5,6])]),
 (33,[(0,[]),(2,[0,1,12,13]),(9,[0,1,12,13])]),
 (34,[(0,[6]),(2,[0,4,6]),(4,[0,4,6,7]),(6,[0,4,6,7,8]),(8,[0,4,6,7,8,9]),(10,[0,4,6,7,8,9,10]),(11,[0,4,6]),(17,[0,4,6,7,8]),(25,[0,4,6,7,8,9,10])]),
 (35,[(0,[8]),(2,[0,1,8,19,20,21]),(13,[0,1,8,19,20,21])]),
 (36,[(0,[7]),(2,[0,1,7,8]),(13,[0,1,7,8])]),
 (38,[(0,[]),(2,[0,1,5]),(9,[0,1,5])]),
 (41,[(0,[0,1,4])]),
 (42,[(0,[3,4,8,9,10,11]),(2,[3,4,8,9,10,11,22,23,24]),(7,[3,4,8,9,10,11,22,23,24])]),
 (45,[(0,[]),(2,[0,1,7,8]),(5,[0,1,7,8])]),
 (50,[(0,[]),(2,[0,1,5]),(5,[0,1,5])]),
 (51,[(0,[6]),(2,[6,20,21,22]),(13,[6,20,21,22])]),
 (52,[(0,[3]),(2,[3,6,7,8]),(7,[3,6,7,8])]),
 (53,[(0,[]),(2,[1,5,6,7]),(5,[1,5,6,7])]),
 (56,[(0,[]),(2,[0,5]),(4,[0,5]),(6,[0,5,6]),(11,[0,5]),(17,[0,5,6])]),
 (59,[(0,[]),(2,[3]),(4,[1,3,4,5]),(45,[1,3,4,5])]),
 (60,[(0,[0]),(2,[0,2,4,7]),(13,[0,2,4,7])]),
 (61,[(0,[1,2]),(2,[1,2,13,14,15]),(9,[1,2,13,14,15])]),
 (62,[(0,[2,3,4]),(2,[2,3,4,7]),(4,[]),(6,[2,3,4,8]),(9,[2,3,4,7]),(19,[2,3,4,8])]),
 (63,[(0,[0]),(2,[0,5]),(4,[0,8]),(6,[0,8,9]),(9,[0,5]),(23,[0,8,9])]),
 (69,[(0,[3]),(2,[0,3]),(5,[0,3])]),
 (73,[(0,[])]),
 (74,[(0,[6]),(2,[0,1,5,6]),(4,[0,1,5,6]),(13,[0,1,5,6])]),
 (76,[(0,[0,1,4,5]),(2,[0,4,6])]),
 (81,[(0,[3,4])]),
 (82,[(0,[]),(1,[0,1]),(2,[0,1])]),
 (84,[(0,[]),(2,[0,1,7,8]),(5,[0,1,7,8])]),
 (85,[(0,[]),(2,[0,1,2,3,8,9]),(5,[0,1,2,3,8,9])]),
 (87,[(0,[0]),(2,[0,9,10,11]),(4,[6]),(5,[0,9,10,11]),(6,[6,55,56,57]),(19,[6,55,56,57])]),
 (88,[(0,[]),(2,[]),(4,[1,2,13,14,15]),(6,[]),(7,[1,2,13,14,15]),(8,[1,2,88,89,90]),(41,[1,2,88,89,90])]),
 (91,[(0,[]),(2,[0,1,7,8]),(5,[0,1,7,8])]),
 (92,[(0,[4]),(2,[0,4,5]),(7,[0,4,5])]),
 (93,[(0,[]),(2,[0,1,5]),(5,[0,1,5])]),
 (94,[(0,[])]),
 (95,[(0,[])]),
 (96,[(0,[]),(2,[0,3]),(5,[0,3])]),
 (97,[(0,[]),(2,[1,3]),(9,[1,3])]),
 (101,[(0,[1]),(2,[0,1]),(3,[0,1]),(4,[0,1]),(6,[0,1]),(8,[0,1]),(21,[0,1])]),
 (102,[(0,[2]),(2,[0,2,14,15]),(11,[0,2,14,15])]),
 (104,[(0,[0,1,4])]),
 (105,[(0,[0,4,5]),(2,[0,1,4,5]),(5,[0,1,4,5])]),
 (106,[(0,[]),(2,[0,1,7,8]),(5,[0,1,7,8])]),
 (112,[(0,[4,10]),(2,[2,4,10,72,73,74]),(21,[2,4,10,72,73,74])]),
 (113,[(0,[2,3,4,7])]),
 (115,[(0,[]),(2,[0,1,2,6]),(3,[0,1,2,6]),(4,[0,1,2,6]),(6,[0,1,2,6,7]),(9,[0,1,2,6,7])]),
 (116,[(0,[0,6,7,8]),(2,[0,6,7,8,9]),(4,[]),(6,[0,6,7,10]),(9,[0,6,7,8,9]),(17,[0,6,7,10])]),
 (117,[(0,[]),(2,[0,1,6,7,8,9]),(11,[0,1,6,7,8,9])]),
 (118,[(0,[6,7])]),
 (119,[(0,[]),(2,[0,6,7]),(5,[0,6,7])]),
 (120,[(0,[]),(2,[0,1,2,7,8]),(4,[0,1,2,7,8]),(6,[0,1,2,7,8]),(7,[0,1,2,7,8]),(8,[0,1,2,7,8]),(10,[0,1,2,7,8,9]),(11,[0,1,2,7,8]),(12,[0,1,2,7,8]),(14,[0,1,2,7,8,10]),(29,[0,1,2,7,8,9]),(41,[0,1,2,7,8,10])]),
 (122,[(0,[9]),(2,[0,1,9,10]),(4,[0,1,9,10]),(6,[0,1,9,10]),(7,[0,1,9,10]),(8,[0,1,9,10]),(10,[0,1,9,10]),(11,[0,1,9,10])]),
 (123,[(0,[0,1,10,11]),(2,[0,1,10,11]),(4,[0,1,10,11]),(6,[0,1,10,11]),(7,[0,1,10,11]),(8,[0,1,11]),(10,[0,1,10,11]),(11,[0,1,10,11]),(12,[0,1,10,11]),(14,[0,1,10,11]),(16,[0,1,10,11]),(18,[0,1,10,11]),(27,[0,1,10,11]),(31,[0,1,10,11])]),
 (127,[(0,[]),(2,[0,6,7,8]),(3,[0,6,7,8])]),
 (131,[(0,[0,3]),(2,[0,3,9,10,11]),(4,[6]),(6,[6,25,26,27]),(7,[0,3,9,10,11]),(23,[6,25,26,27])]),
 (132,[(0,[]),(2,[0,1,7,8]),(5,[0,1,7,8])]),
 (134,[(0,[1,5,6])]),
 (137,[(0,[])]),
 (143,[(0,[3]),(2,[0,3]),(5,[0,3])]),
 (144,[(0,[4,5]),(2,[0,1,4,5]),(5,[0,1,4,5])]),
 (145,[(0,[2]),(2,[0,2,3]),(11,[0,2,3])]),
 (149,[(0,[1,2,4]),(2,[1,2,4]),(5,[1,2,4])]),
 (150,[(0,[2,3,6,7]),(2,[6,7]),(4,[3,6,7,135,136,137]),(69,[3,6,7,135,136,137])]),
 (151,[(0,[3,5,6])]),
 (152,[(0,[]),(2,[0,2,3,8]),(3,[0,2,3,8])]),
 (161,[(0,[])]),
 (163,[(0,[])]),
 (166,[(0,[0,6]),(2,[0,6,7]),(4,[0,6,7]),(6,[0,6,7]),(8,[0,6,7,8,9]),(10,[0,6,7,8,9]),(17,[0,6,7]),(25,[0,6,7]),(37,[0,6,7,8,9])]),
 (167,[(0,[5]),(2,[0,1,5,6]),(7,[0,1,5,6])]),
 (169,[(0,[3]),(2,[1,3,4]),(4,[1,3,4,5,6]),(6,[1,3,4,5,6,7]),(7,[1,3,4]),(17,[1,3,4,5,6,7])]),
 (175,[(0,[4,5]),(2,[0,1,4,5]),(5,[0,1,4,5])]),
 (176,[(0,[]),(2,[0,2,3]),(3,[0,2,3])]),
 (192,[(0,[0,1]),(2,[0,1,5]),(4,[0,1,5,39,40,41]),(6,[8]),(8,[1,8,63,64,65]),(25,[0,1,5,39,40,41]),(45,[1,8,63,64,65])]),
 (196,[(0,[0]),(2,[0,12,13,14]),(4,[0,5,12,13,14]),(6,[0,5,12,13,14,38,39,40]),(7,[0,12,13,14]),(21,[0,5,12,13,14,38,39,40])]),
 (197,[(0,[]),(2,[0,3]),(4,[0,3,4,5,7]),(5,[0,3]),(6,[0,3,4,5,7,8]),(19,[0,3,4,5,7,8])]),
 (201,[(0,[]),(2,[0,1,6,7]),(15,[0,1,6,7])]),
 (203,[(0,[]),(2,[1,2,14,15,16]),(9,[1,2,14,15,16])]),
 (205,[(0,[3,4,5]),(2,[2,3,4,5,10,11,12]),(7,[2,3,4,5,10,11,12])]),
 (210,[(0,[]),(2,[5,6,7]),(5,[5,6,7])]),
 (212,[(0,[6]),(2,[1,6,11,12,13]),(4,[1,6,11,12,13]),(6,[1,6,8,11,12,13,17,18,19]),(7,[1,6,11,12,13]),(13,[1,6,8,11,12,13,17,18,19])]),
 (217,[(0,[])]),
 (218,[(0,[])]),
 (221,[(0,[]),(2,[5,6,7]),(5,[5,6,7])]),
 (226,[(0,[1]),(2,[1,2,13,14,15]),(5,[1,2,13,14,15])]),
 (228,[(0,[1,4]),(2,[1,4,11,12,13]),(4,[4]),(6,[4,26,27,28]),(7,[1,4,11,12,13]),(17,[4,26,27,28])]),
 (230,[(0,[5]),(2,[4,5,13,14,15]),(4,[9]),(6,[8,9,34,35,36]),(9,[4,5,13,14,15]),(31,[8,9,34,35,36])]),
 (233,[(0,[]),(2,[0,1,12,13]),(9,[0,1,12,13])]),
 (234,[(0,[3])]),
 (245,[(0,[]),(2,[0,1,7,8]),(5,[0,1,7,8])]),
 (246,[(0,[]),(2,[0,1,2,3,4,10,11]),(5,[0,1,2,3,4,10,11])]),
 (248,[(0,[]),(2,[0,1]),(3,[0,1])]),
 (250,[(0,[]),(2,[0,1,2,3,8]),(3,[0,1,2,3,8]),(4,[0,1,2,3,8]),(6,[0,1,2,3,8,9]),(9,[0,1,2,3,8,9])]),
 (251,[(0,[0,3,8,9,10]),(2,[0,3,8,9,10,11]),(4,[]),(6,[0,3,8,9,12]),(9,[0,3,8,9,10,11]),(17,[0,3,8,9,12])]),
 (252,[(0,[]),(2,[0,1,8,9,10,11]),(11,[0,1,8,9,10,11])]),
 (253,[(0,[8,9])]),
 (254,[(0,[]),(2,[0,8,9]),(5,[0,8,9])]),
 (255,[(0,[]),(2,[0,1,2,3,9,10]),(4,[0,1,2,3,9,10]),(6,[0,1,2,3,9,10]),(7,[0,1,2,3,9,10]),(8,[0,1,2,3,9,10]),(10,[0,1,2,3,9,10,11]),(11,[0,1,2,3,9,10]),(12,[0,1,2,3,9,10]),(14,[0,1,2,3,9,10,12]),(29,[0,1,2,3,9,10,11]),(41,[0,1,2,3,9,10,12])]),
 (256,[(0,[11]),(2,[0,1,4,11,12]),(4,[0,1,4,11,12]),(6,[0,1,4,11,12]),(7,[0,1,4,11,12]),(8,[0,1,4,11,12]),(10,[0,1,4,11,12]),(11,[0,1,4,11,12])]),
 (257,[(0,[0,1,4,12,13]),(2,[0,1,4,12,13]),(4,[0,1,4,12,13]),(6,[0,1,4,12,13]),(7,[0,1,4,12,13]),(8,[0,1,13]),(10,[0,1,4,12,13]),(11,[0,1,4,12,13]),(12,[0,1,4,12,13]),(14,[0,1,4,12,13]),(16,[0,1,4,12,13]),(18,[0,1,4,12,13]),(27,[0,1,4,12,13]),(31,[0,1,4,12,13])]),
 (259,[(0,[]),(2,[0,2,3,4,10]),(3,[0,2,3,4,10])])]
def live(f key:Nat):List Nat:=match zg z86 f with | some l=>(match zg l key with | some r=>r | none=>[]) | none=>[]
def wl:D:=.agg [.str [45,62],.str [47,92],.str [92,47],.str [40],.str [41],.str [91],.str [93],.str [44],.str [46],.str [58],.str [59],.str [61],.str [92],.str [60],.str [62],.str [64],.str [126],.str [42],.str [48],.str [49]]
def acc:D:=.agg [.int .u8 128,.int .u8 191,.int .u8 160,.int .u8 191,.int .u8 128,.int .u8 159,.int .u8 144,.int .u8 191,.int .u8 128,.int .u8 143,.int .u8 0,.int .u8 0,.int .u8 0,.int .u8 0,.int .u8 0,.int .u8 0,.int .u8 0,.int .u8 0,.int .u8 0,.int .u8 0,.int .u8 0,.int .u8 0,.int .u8 0,.int .u8 0,.int .u8 0,.int .u8 0,.int .u8 0,.int .u8 0,.int .u8 0,.int .u8 0,.int .u8 0,.int .u8 0]
def unW:DataW Unit→List D
 | .lit (.int k n)=>[.int k n]
 | .agg l=>l.map λ d=>match d with | .lit (.int k n)=>.int k n | _=>.nilIface
 | _=>[]
def glob:Nat→Option D
 | 0=>some wl
 | 1=>some (.agg (unW Go.Pinned.utf8First))
 | 2=>some acc
 | _=>none
def big:Nat:=4611686018427387904
def dom(f:Nat)(args:List V):Bool:=
 bif Nat.beq f 101 then (match args with | [.d (.str s),.d (.int .i64 a)]=>decide (s.length≤big)&&(decide (0≤a)&&decide (a≤(s.length:Int))) | _=>true)
 else bif Nat.beq f 201 then (match args with | [.d (.str s),.d (.int .i64 a)]=>decide (s.length≤big)&&(decide (0≤a)&&decide (a<(s.length:Int))) | _=>true)
 else bif Nat.beq f 141 then (match args with | [.d (.str (b::_))]=>decide (128≤b.toNat) | _=>true)
 else bif Nat.beq f 62 then true
 else (match args with | [.d (.str s)]=>decide (s.length≤big) | _=>true)
def flat(f key:Nat):List Nat:=bif Nat.beq f 74&&Nat.beq key 13 then [6,7] else bif (Nat.beq f 144||Nat.beq f 175)&&Nat.beq key 5 then [5,6] else bif Nat.beq f 145&&Nat.beq key 11 then [3] else bif Nat.beq f 105&&Nat.beq key 5 then [5] else []
def own(nt d:Nat):Bool:=(Nat.beq nt 56&&Nat.beq d 9)||(Nat.beq nt 55&&(Nat.beq d 28||Nat.beq d 9))||(Nat.beq nt 23&&Nat.beq d 4)
def thaw(nt d:Nat):Bool:=Nat.beq nt 56&&Nat.beq d 51
def grow(f:Nat):Option Nat:=bif Nat.beq f 165 then some 9 else none
def cx:Cx:={ dom:=dom,P:=Go.Proofs.Tryz.prog,live:=live,glob:=glob,keep:=λ f=>Nat.beq f 75,dfr:=λ f=>Nat.beq f 39||Nat.beq f 42,gives:=λ f=>Nat.beq f 63,pend:=λ f r=>bif Nat.beq f 82&&Nat.beq r 1 then some 5 else none,flat:=flat,bare:=λ nt d=>(Nat.beq nt 129&&Nat.beq d 103)||(Nat.beq nt 42&&Nat.beq d 31),typed:=λ nt d=>Nat.beq nt 89&&(Nat.beq d 53||Nat.beq d 54),tagS:=λ nt d=>bif Nat.beq nt 89&&Nat.beq d 53 then 6 else 0,nat:=nat,own:=own,thaw:=thaw,grow:=grow }
def Sp.blank(c:Int):Bool:=decide (c=32)||decide (c=9)||decide (c=10)||decide (c=13)
def Sp.letter(c:Int):Bool:=(decide (97≤c)&&decide (c≤122))||(decide (65≤c)&&decide (c≤90))||decide (c=95)
def Sp.digit(c:Int):Bool:=decide (48≤c)&&decide (c≤57)
def yg(c:Int):Int:=bif decide (c<128) then 0 else bif decide (194≤c)&&decide (c≤223) then 1 else bif decide (224≤c)&&decide (c≤239) then 2 else bif decide (240≤c)&&decide (c≤244) then 3 else -1
def vd(c:Int):Int:=bif decide (c<128) then 0 else bif decide (194≤c)&&decide (c≤223) then 128 else bif decide (224≤c)&&decide (c≤239) then 2048 else bif decide (240≤c)&&decide (c≤244) then 65536 else 0
def zm(s p:List UInt8):Bool:=decide (s.take p.length=p)
def zo:yk:=λ _ _ _=>none
theorem yu(cx:Cx):knows cx zo (zh cx):=λ _ _ _ _ _ h=>by cases h
def zhb(f:Nat)(F:List V→Option Out)(S:yk):yk:=λ g args σ=>
 bif Nat.beq g f then (match σ with | []=>(match F args with | some o=>some (o,[]) | none=>none) | _::_=>none) else S g args σ
theorem xw{cx:Cx}{f:Nat}{F:List V→Option Out}{S:yk}(hS:knows cx S (zh cx))(hF:∀ args o,cx.dom f args=true→F args=some o→zh cx f args []=some (o,[])):knows cx (zhb f F S) (zh cx):=by
 intro g args σ r hd h;unfold zhb at h;cases hg:Nat.beq g f <;> rw [hg] at h
 ·exact hS g args σ r hd h
 ·obtain rfl:=pg hg;cases σ with
  | cons a b=>cases h
  | nil=>
   simp only [cond_true] at h;cases ho:F args with
   | none=>rw [ho] at h; cases h
   | some o=>rw [ho] at h; cases h; exact hF args o hd ho
def zrj(F:Int→Bool):List V→Option Out
 | [.d (.int .u8 c)]=>some (.ret (.d (.bool (F c))))
 | _=>none
theorem zgc{F:Int→Bool}{args:List V}{o:Out}(h:zrj F args=some o):∃ c,args=[.d (.int .u8 c)]∧o=.ret (.d (.bool (F c))):=by
 unfold zrj at h;split at h
 ·cases h; exact ⟨_,rfl,rfl⟩
 ·cases h
theorem b16(n:Nat)(S:yk)(c:Int):zk cx S n 198 [.d (.int .u8 c)] []=bif decide (c=(32:Int)) then some (Out.ret (V.d (D.bool true)),[]) else bif decide (c=(9:Int)) then some (Out.ret (V.d (D.bool true)),[]) else bif decide (c=(10:Int)) then some (Out.ret (V.d (D.bool true)),[]) else some (Out.ret (V.d (D.bool (decide (c=(13:Int))))),[]):=by kernel_rfl
theorem b17(n:Nat)(S:yk)(c:Int):zk cx S n 199 [.d (.int .u8 c)] []=bif decide (c=(95:Int)) then some (Out.ret (V.d (D.bool true)),[]) else bif decide ((97:Int)≤c) then bif decide (c≤(122:Int)) then some (Out.ret (V.d (D.bool true)),[]) else bif decide ((65:Int)≤c) then some (Out.ret (V.d (D.bool (decide (c≤(90:Int))))),[]) else some (Out.ret (V.d (D.bool false)),[]) else bif decide ((65:Int)≤c) then some (Out.ret (V.d (D.bool (decide (c≤(90:Int))))),[]) else some (Out.ret (V.d (D.bool false)),[]):=by kernel_rfl
theorem b18(n:Nat)(S:yk)(c:Int):zk cx S n 200 [.d (.int .u8 c)] []=bif decide ((48:Int)≤c) then some (Out.ret (V.d (D.bool (decide (c≤(57:Int))))),[]) else some (Out.ret (V.d (D.bool false)),[]):=by kernel_rfl
theorem b25(n:Nat)(S:yk)(c:Int):zk cx S n 174 [.d (.int .u8 c)] []=bif decide ((97:Int)≤c) then bif decide (c≤(122:Int)) then some (Out.ret (V.d (D.bool true)),[]) else bif decide ((65:Int)≤c) then bif decide (c≤(90:Int)) then some (Out.ret (V.d (D.bool true)),[]) else some (Out.ret (V.d (D.bool (decide (c=(95:Int))))),[]) else some (Out.ret (V.d (D.bool (decide (c=(95:Int))))),[]) else bif decide ((65:Int)≤c) then bif decide (c≤(90:Int)) then some (Out.ret (V.d (D.bool true)),[]) else some (Out.ret (V.d (D.bool (decide (c=(95:Int))))),[]) else some (Out.ret (V.d (D.bool (decide (c=(95:Int))))),[]):=by kernel_rfl
theorem b23(n:Nat)(S:yk)(c:Int):zk cx S n 219 [.d (.int .u8 c)] []=bif decide (c<(128:Int)) then some (Out.ret (V.tup [V.d (D.int .i64 (0:Int)),V.d (D.int .i64 (0:Int))]),[]) else bif decide ((194:Int)≤c) then bif decide (c≤(223:Int)) then some (Out.ret (V.tup [V.d (D.int .i64 (1:Int)),V.d (D.int .i64 (128:Int))]),[]) else bif decide ((224:Int)≤c) then bif decide (c≤(239:Int)) then some (Out.ret (V.tup [V.d (D.int .i64 (2:Int)),V.d (D.int .i64 (2048:Int))]),[]) else bif decide ((240:Int)≤c) then bif decide (c≤(244:Int)) then some (Out.ret (V.tup [V.d (D.int .i64 (3:Int)),V.d (D.int .i64 (65536:Int))]),[]) else some (Out.ret (V.tup [V.d (D.int .i64 (Int.negSucc 0)),V.d (D.int .i64 (0:Int))]),[]) else some (Out.ret (V.tup [V.d (D.int .i64 (Int.negSucc 0)),V.d (D.int .i64 (0:Int))]),[]) else bif decide ((240:Int)≤c) then bif decide (c≤(244:Int)) then some (Out.ret (V.tup [V.d (D.int .i64 (3:Int)),V.d (D.int .i64 (65536:Int))]),[]) else some (Out.ret (V.tup [V.d (D.int .i64 (Int.negSucc 0)),V.d (D.int .i64 (0:Int))]),[]) else some (Out.ret (V.tup [V.d (D.int .i64 (Int.negSucc 0)),V.d (D.int .i64 (0:Int))]),[]) else bif decide ((224:Int)≤c) then bif decide (c≤(239:Int)) then some (Out.ret (V.tup [V.d (D.int .i64 (2:Int)),V.d (D.int .i64 (2048:Int))]),[]) else bif decide ((240:Int)≤c) then bif decide (c≤(244:Int)) then some (Out.ret (V.tup [V.d (D.int .i64 (3:Int)),V.d (D.int .i64 (65536:Int))]),[]) else some (Out.ret (V.tup [V.d (D.int .i64 (Int.negSucc 0)),V.d (D.int .i64 (0:Int))]),[]) else some (Out.ret (V.tup [V.d (D.int .i64 (Int.negSucc 0)),V.d (D.int .i64 (0:Int))]),[]) else bif decide ((240:Int)≤c) then bif decide (c≤(244:Int)) then some (Out.ret (V.tup [V.d (D.int .i64 (3:Int)),V.d (D.int .i64 (65536:Int))]),[]) else some (Out.ret (V.tup [V.d (D.int .i64 (Int.negSucc 0)),V.d (D.int .i64 (0:Int))]),[]) else some (Out.ret (V.tup [V.d (D.int .i64 (Int.negSucc 0)),V.d (D.int .i64 (0:Int))]),[]):=by kernel_rfl
theorem b24(n:Nat)(S:yk)(s p:List UInt8):zk cx S n 173 [.d (.str s),.d (.str p)] []=bif decide ((↑p.length:Int)≤(↑s.length:Int)) then za (decide ((↑p.length:Int)≤(↑s.length:Int))) (some (Out.ret (V.d (D.bool (decide (List.drop 0 (List.take (↑p.length:Int).toNat s)=p)))),[])) else some (Out.ret (V.d (D.bool false)),[]):=by kernel_rfl
theorem z9u(c:Int):zh cx 198 [.d (.int .u8 c)] []=some (.ret (.d (.bool (Sp.blank c))),[]):=by
 refine xl (N:=0) (yu cx) ?_;rw [b16];unfold Sp.blank;cases decide (c=32) <;> cases decide (c=9) <;> cases decide (c=10) <;> rfl
theorem z9t(c:Int):zh cx 199 [.d (.int .u8 c)] []=some (.ret (.d (.bool (Sp.letter c))),[]):=by
 refine xl (N:=0) (yu cx) ?_;rw [b17];unfold Sp.letter;cases decide (c=95) <;> cases decide (97≤c) <;> cases decide (c≤122) <;> cases decide (65≤c) <;> cases decide (c≤90) <;> rfl
theorem z9s(c:Int):zh cx 200 [.d (.int .u8 c)] []=some (.ret (.d (.bool (Sp.digit c))),[]):=by
 refine xl (N:=0) (yu cx) ?_;rw [b18];unfold Sp.digit;cases decide (48≤c) <;> rfl
theorem z9m(c:Int):zh cx 174 [.d (.int .u8 c)] []=some (.ret (.d (.bool (Sp.letter c))),[]):=by
 refine xl (N:=0) (yu cx) ?_;rw [b25];unfold Sp.letter;cases decide (c=95) <;> cases decide (97≤c) <;> cases decide (c≤122) <;> cases decide (65≤c) <;> cases decide (c≤90) <;> rfl
theorem z9o(c:Int):zh cx 219 [.d (.int .u8 c)] []=some (.ret (.tup [.d (.int .i64 (yg c)),.d (.int .i64 (vd c))]),[]):=by
 refine xl (N:=0) (yu cx) ?_;rw [b23];unfold yg vd;cases decide (c<128) <;> cases decide (194≤c) <;> cases decide (c≤223) <;> cases decide (224≤c) <;> cases decide (c≤239) <;> cases decide (240≤c) <;> cases decide (c≤244) <;> rfl
theorem z9n(s p:List UInt8):zh cx 173 [.d (.str s),.d (.str p)] []=some (.ret (.d (.bool (zm s p))),[]):=by
 refine xl (N:=0) (yu cx) ?_;rw [b24];unfold zm;by_cases h:p.length≤s.length
 ·have h':decide ((p.length:Int)≤s.length)=true:=pa (by omega)
  simp only [h',za,cond_true,pm,List.drop_zero]
 ·have h':decide ((p.length:Int)≤s.length)=false:=pb (by omega)
  have:decide (s.take p.length=p)=false:=pb λ e=>by
   have:=congrArg List.length e;simp at this;omega
  simp only [h',cond_false,this]
theorem drop_nil{s:List UInt8}{j:Nat}(h:s.drop j=[]):s.length≤j:=by
 have:=congrArg List.length h;simp at this;omega
theorem drop_cons{s r:List UInt8}{b:UInt8}{j:Nat}(h:s.drop j=b::r):j<s.length∧s[j]?=some b∧s.drop (j+1)=r:=by
 have h1:j<s.length:=by
  have:=congrArg List.length h;simp at this;omega
 refine ⟨h1,?_,?_⟩
 ·have:=congrArg (·[0]?) h;simpa using this
 ·rw [←List.drop_drop,h]; rfl
theorem zpv{j:Nat}(h:j≤4611686018427387904):IntKind.i64.wrap ((j:Int)+1)=((j+1:Nat):Int):=by
 rw [IntWalk.i64_in _ (by omega)]; rfl
def z1y:List V→Option Out
 | [.d (.str s),.d (.str p)]=>some (.ret (.d (.bool (zm s p))))
 | _=>none
theorem zp5{args:List V}{o:Out}(h:z1y args=some o):∃ s p,args=[.d (.str s),.d (.str p)]∧o=.ret (.d (.bool (zm s p))):=by
 unfold z1y at h;split at h
 ·cases h; exact ⟨_,_,rfl,rfl⟩
 ·cases h
def S22:yk:=zhb 174 (zrj Sp.letter) zo
def S21:yk:=zhb 173 z1y zo
theorem z0j:knows cx S22 (zh cx):=xw (yu cx) λ args o _ h=>by
 obtain ⟨c,rfl,rfl⟩:=zgc h;exact z9m c
theorem z0k:knows cx S21 (zh cx):=xw (yu cx) λ args o _ h=>by
 obtain ⟨s,p,rfl,rfl⟩:=zp5 h;exact z9n s p
theorem b21(n:Nat)(s p:List UInt8):zk cx S21 n 142 [.d (.str s),.d (.str p)] []=some (Out.ret (V.d (D.bool (zm s p))),[]):=by kernel_rfl
theorem b22(n:Nat)(s:List UInt8):zk cx S22 n 143 [.d (.str s)] []=LP cx S22 n 143 0 2 n [(0,V.d (D.str s)),(3,V.d (D.int .i64 (0:Int)))] [] (AK cx S22 n 143 0 2 (EK cx 143 0)):=by kernel_rfl
theorem l22(n k:Nat)(s:List UInt8)(i:Int):LP cx S22 n 143 0 2 (k+1) [(0,.d (.str s)),(3,.d (.int .i64 i))] [] (AK cx S22 n 143 0 2 (EK cx 143 0))=bif decide (i<(↑s.length:Int)) then za (decide (0≤i)&&decide (i<(↑s.length:Int))) (zd s[i.toNat]? λ b=>bif Sp.letter (↑b.toNat:Int) then LP cx S22 n 143 0 2 k [(0,V.d (D.str s)),(3,V.d (D.int .i64 (IntKind.i64.wrap (i+(1:Int)))))] [] (AK cx S22 n 143 0 2 (EK cx 143 0)) else bif decide ((0:Int)<i) then za (decide (0≤i)&&decide (i<(↑s.length:Int))) (zd s[i.toNat]? λ b=>bif decide ((48:Int)≤(↑b.toNat:Int)) then za (decide (0≤i)&&decide (i<(↑s.length:Int))) (zd s[i.toNat]? λ b=>bif decide ((↑b.toNat:Int)≤(57:Int)) then LP cx S22 n 143 0 2 k [(0,V.d (D.str s)),(3,V.d (D.int .i64 (IntKind.i64.wrap (i+(1:Int)))))] [] (AK cx S22 n 143 0 2 (EK cx 143 0)) else some (Out.ret (V.d (D.int .i64 i)),[])) else some (Out.ret (V.d (D.int .i64 i)),[])) else some (Out.ret (V.d (D.int .i64 i)),[])) else some (Out.ret (V.d (D.int .i64 i)),[]):=by kernel_rfl
theorem z9q(s p:List UInt8):zh cx 142 [.d (.str s),.d (.str p)] []=some (.ret (.d (.bool (zm s p))),[]):=
 xl (N:=0) z0k (b21 0 s p)
def xx:List UInt8→Nat→Nat
 | [],j=>j
 | b::r,j=>bif Sp.letter b.toNat||(decide (0<j)&&Sp.digit b.toNat) then xx r (j+1) else j
def ye(s:List UInt8):Nat:=xx s 0
theorem zqi{s:List UInt8}(hs:s.length≤4611686018427387904)(n:Nat):∀ (r:List UInt8) (j k:Nat),s.drop j=r→j≤s.length→r.length<k →
  LP cx S22 n 143 0 2 k [(0,.d (.str s)),(3,.d (.int .i64 (j:Int)))] [] (AK cx S22 n 143 0 2 (EK cx 143 0))=some (.ret (.d (.int .i64 (xx r j:Nat))),[])
 | [],j,k+1,hr,hj,_=>by
  have:=drop_nil hr;rw [l22,pb (by omega),cond_false]
  rfl
 | b::r,j,k+1,hr,hj,hk=>by
  obtain ⟨h1,h2,h3⟩:=drop_cons hr;have ih:=zqi hs n r (j+1) k h3 h1 (by simpa using hk)
  have h0:decide ((0:Int)≤(j:Int))=true:=pa (by omega)
  have hlt:decide ((j:Int)<(s.length:Int))=true:=pa (by omega)
  rw [l22];simp only [hlt,h0,za,cond_true,Bool.and_self,pm,h2,zd,zpv (show j≤4611686018427387904 by omega),ih,xx,Sp.digit]
  have hz:decide ((0:Int)<(j:Int))=decide (0<j):=by
   by_cases h:0<j
   ·rw [pa h,pa (by omega)]
   ·rw [pb h,pb (by omega)]
  rw [hz];cases Sp.letter b.toNat <;> cases decide (0<j) <;> cases decide ((48:Int)≤(b.toNat:Int)) <;> cases decide ((b.toNat:Int)≤(57:Int)) <;> rfl
theorem z9p(s:List UInt8)(hs:s.length≤4611686018427387904):zh cx 143 [.d (.str s)] []=some (.ret (.d (.int .i64 (ye s:Nat))),[]):=by
 refine xl (N:=s.length+1) z0j ?_;rw [b22];exact zqi hs _ s 0 _ rfl (Nat.zero_le _) (by omega)
def S13:yk:=zhb 142 z1y zo
theorem zrn:knows cx S13 (zh cx):=xw (yu cx) λ args o _ h=>by
 obtain ⟨s,p,rfl,rfl⟩:=zp5 h;exact z9q s p
theorem b13(n:Nat)(s:List UInt8)(a:Int):zk cx S13 n 101 [.d (.str s),.d (.int .i64 a)] []=LP cx S13 n 101 0 1 n [(0,V.d (D.str s)),(1,V.d (D.int .i64 a))] [] (AK cx S13 n 101 0 1 (EK cx 101 0)):=by kernel_rfl
theorem l13(n k:Nat)(s:List UInt8)(i:Int):LP cx S13 n 101 0 1 (k+1) [(0,.d (.str s)),(1,.d (.int .i64 i))] [] (AK cx S13 n 101 0 1 (EK cx 101 0))=bif decide (i<(↑s.length:Int)) then za (decide (0≤i)&&decide (i<(↑s.length:Int))) (zd s[i.toNat]? λ b=>bif decide ((↑b.toNat:Int)=(32:Int)) then bif decide ((↑b.toNat:Int)=(32:Int)) then LP cx S13 n 101 0 1 k [(0,V.d (D.str s)),(1,V.d (D.int .i64 (IntKind.i64.wrap (i+(1:Int)))))] [] (AK cx S13 n 101 0 1 (EK cx 101 0)) else bif decide ((↑b.toNat:Int)=(45:Int)) then za (decide (0≤i)&&decide (i≤(↑s.length:Int))) (bif !zm (List.drop i.toNat (List.take s.length s)) [45,45] then some (Out.ret (V.d (D.int .i64 i)),[]) else LP cx S13 n 101 0 10 n [(0,V.d (D.str s)),(1,V.d (D.int .i64 i))] [] (AL cx S13 n 101 0 1 10 (inK cx S13 n 101 0 1 k (AK cx S13 n 101 0 1 (EK cx 101 0))))) else some (Out.ret (V.d (D.int .i64 i)),[]) else bif decide ((↑b.toNat:Int)=(9:Int)) then bif decide ((↑b.toNat:Int)=(9:Int)) then LP cx S13 n 101 0 1 k [(0,V.d (D.str s)),(1,V.d (D.int .i64 (IntKind.i64.wrap (i+(1:Int)))))] [] (AK cx S13 n 101 0 1 (EK cx 101 0)) else bif decide ((↑b.toNat:Int)=(45:Int)) then za (decide (0≤i)&&decide (i≤(↑s.length:Int))) (bif !zm (List.drop i.toNat (List.take s.length s)) [45,45] then some (Out.ret (V.d (D.int .i64 i)),[]) else LP cx S13 n 101 0 10 n [(0,V.d (D.str s)),(1,V.d (D.int .i64 i))] [] (AL cx S13 n 101 0 1 10 (inK cx S13 n 101 0 1 k (AK cx S13 n 101 0 1 (EK cx 101 0))))) else some (Out.ret (V.d (D.int .i64 i)),[]) else bif decide ((↑b.toNat:Int)=(10:Int)) then bif decide ((↑b.toNat:Int)=(10:Int)) then LP cx S13 n 101 0 1 k [(0,V.d (D.str s)),(1,V.d (D.int .i64 (IntKind.i64.wrap (i+(1:Int)))))] [] (AK cx S13 n 101 0 1 (EK cx 101 0)) else bif decide ((↑b.toNat:Int)=(45:Int)) then za (decide (0≤i)&&decide (i≤(↑s.length:Int))) (bif !zm (List.drop i.toNat (List.take s.length s)) [45,45] then some (Out.ret (V.d (D.int .i64 i)),[]) else LP cx S13 n 101 0 10 n [(0,V.d (D.str s)),(1,V.d (D.int .i64 i))] [] (AL cx S13 n 101 0 1 10 (inK cx S13 n 101 0 1 k (AK cx S13 n 101 0 1 (EK cx 101 0))))) else some (Out.ret (V.d (D.int .i64 i)),[]) else bif decide ((↑b.toNat:Int)=(13:Int)) then LP cx S13 n 101 0 1 k [(0,V.d (D.str s)),(1,V.d (D.int .i64 (IntKind.i64.wrap (i+(1:Int)))))] [] (AK cx S13 n 101 0 1 (EK cx 101 0)) else bif decide ((↑b.toNat:Int)=(45:Int)) then za (decide (0≤i)&&decide (i≤(↑s.length:Int))) (bif !zm (List.drop i.toNat (List.take s.length s)) [45,45] then some (Out.ret (V.d (D.int .i64 i)),[]) else LP cx S13 n 101 0 10 n [(0,V.d (D.str s)),(1,V.d (D.int .i64 i))] [] (AL cx S13 n 101 0 1 10 (inK cx S13 n 101 0 1 k (AK cx S13 n 101 0 1 (EK cx 101 0))))) else some (Out.ret (V.d (D.int .i64 i)),[])) else some (Out.ret (V.d (D.int .i64 i)),[]):=by kernel_rfl
theorem z7m(n k k':Nat)(s:List UInt8)(i:Int):LP cx S13 n 101 0 10 (k+1) [(0,.d (.str s)),(1,.d (.int .i64 i))] [] (AL cx S13 n 101 0 1 10 (inK cx S13 n 101 0 1 k' (AK cx S13 n 101 0 1 (EK cx 101 0))))=bif decide (i<(↑s.length:Int)) then za (decide (0≤i)&&decide (i<(↑s.length:Int))) (zd s[i.toNat]? λ b=>bif !decide ((↑b.toNat:Int)=(10:Int)) then LP cx S13 n 101 0 10 k [(0,V.d (D.str s)),(1,V.d (D.int .i64 (IntKind.i64.wrap (i+(1:Int)))))] [] (AL cx S13 n 101 0 1 10 (inK cx S13 n 101 0 1 k' (AK cx S13 n 101 0 1 (EK cx 101 0)))) else LP cx S13 n 101 0 1 k' [(0,V.d (D.str s)),(1,V.d (D.int .i64 i))] [] (AK cx S13 n 101 0 1 (EK cx 101 0))) else LP cx S13 n 101 0 1 k' [(0,V.d (D.str s)),(1,V.d (D.int .i64 i))] [] (AK cx S13 n 101 0 1 (EK cx 101 0)):=by kernel_rfl
def yn:Bool→List UInt8→Nat→Nat
 | _,[],j=>j
 | true,b::r,j=>yn (!decide ((b.toNat:Int)=10)) r (j+1)
 | false,b::r,j=>bif Sp.blank b.toNat then yn false r (j+1) else bif decide ((b.toNat:Int)=45)&&zm (b::r) [45,45] then yn true r (j+1) else j
theorem zp8{s:List UInt8}(hs:s.length≤4611686018427387904){n:Nat}(hn:s.length<n):∀ (r:List UInt8) (j:Nat),s.drop j=r→j≤s.length →
  (∀ k,r.length<k→LP cx S13 n 101 0 1 k [(0,.d (.str s)),(1,.d (.int .i64 (j:Int)))] [] (AK cx S13 n 101 0 1 (EK cx 101 0))=some (.ret (.d (.int .i64 (yn false r j:Nat))),[])) ∧
  (∀ k k',r.length<k→r.length<k'→LP cx S13 n 101 0 10 k [(0,.d (.str s)),(1,.d (.int .i64 (j:Int)))] [] (AL cx S13 n 101 0 1 10 (inK cx S13 n 101 0 1 k' (AK cx S13 n 101 0 1 (EK cx 101 0)))) =
   some (.ret (.d (.int .i64 (yn true r j:Nat))),[]))
 | [],j,hr,hj=>by
  have:=drop_nil hr;have hge:decide ((j:Int)<(s.length:Int))=false:=pb (by omega)
  have outer:∀ k,0<k→LP cx S13 n 101 0 1 k [(0,.d (.str s)),(1,.d (.int .i64 (j:Int)))] [] (AK cx S13 n 101 0 1 (EK cx 101 0))=some (.ret (.d (.int .i64 (j:Nat))),[]):=by
   intro k hk;obtain ⟨k,rfl⟩:∃ i,k=i+1:=⟨k - 1,by omega⟩
   rw [l13,hge,cond_false]
  refine ⟨outer,λ k k' hk hk'=>?_⟩;obtain ⟨k,rfl⟩:∃ i,k=i+1:=⟨k - 1,by simp at hk; omega⟩
  rw [z7m,hge,cond_false,outer k' hk'];rfl
 | b::r,j,hr,hj=>by
  obtain ⟨h1,h2,h3⟩:=drop_cons hr;obtain ⟨ih1,ih2⟩:=zp8 hs hn r (j+1) h3 h1;have hlen:(b::r).length≤s.length:=by rw [←hr]; simp
  have h0:decide ((0:Int)≤(j:Int))=true:=pa (by omega)
  have hlt:decide ((j:Int)<(s.length:Int))=true:=pa (by omega)
  have hle:decide ((j:Int)≤(s.length:Int))=true:=pa (by omega)
  have hw:=zpv (show j≤4611686018427387904 by omega)
  have step:∀ k k',((b.toNat:Int)=10)=False→r.length<k'→r.length<k→LP cx S13 n 101 0 10 (k+1) [(0,.d (.str s)),(1,.d (.int .i64 (j:Int)))] [] (AL cx S13 n 101 0 1 10 (inK cx S13 n 101 0 1 k' (AK cx S13 n 101 0 1 (EK cx 101 0)))) =
    some (.ret (.d (.int .i64 (yn true r (j+1):Nat))),[]):=by
   intro k k' hb hk' hk;rw [z7m];simp only [hlt,h0,za,cond_true,Bool.and_self,pm,h2,zd,hw,hb,decide_false,Bool.not_false];exact ih2 k k' hk hk'
  have outer:∀ k,(b::r).length<k→LP cx S13 n 101 0 1 k [(0,.d (.str s)),(1,.d (.int .i64 (j:Int)))] [] (AK cx S13 n 101 0 1 (EK cx 101 0))=some (.ret (.d (.int .i64 (yn false (b::r) j:Nat))),[]):=by
   intro k hk;obtain ⟨k,rfl⟩:∃ i,k=i+1:=⟨k - 1,by omega⟩
   obtain ⟨m,rfl⟩:∃ i,n=i+1:=⟨n - 1,by omega⟩
   have hk':r.length<k:=by simpa using hk
   rw [l13];simp only [hlt,h0,hle,za,cond_true,Bool.and_self,pm,h2,zd,hw,ih1 k hk',List.take_length,hr,yn,Sp.blank];by_cases h45:(b.toNat:Int)=45
   ·have e1:decide ((b.toNat:Int)=32)=false:=pb (by omega)
    have e2:decide ((b.toNat:Int)=9)=false:=pb (by omega)
    have e3:decide ((b.toNat:Int)=10)=false:=pb (by omega)
    have e4:decide ((b.toNat:Int)=13)=false:=pb (by omega)
    have e5:decide ((b.toNat:Int)=45)=true:=pa h45;have hin:=step m k (by simp; omega) hk' (by simp at hlen; omega)
    simp only [e1,e2,e3,e4,e5,cond_false,cond_true,Bool.or_self,Bool.true_and,hin];cases zm (b::r) [45,45] <;> rfl
   ·have e5:decide ((b.toNat:Int)=45)=false:=pb h45;simp only [e5,cond_false,Bool.false_and];cases decide ((b.toNat:Int)=32) <;> cases decide ((b.toNat:Int)=9) <;> cases decide ((b.toNat:Int)=10) <;> cases decide ((b.toNat:Int)=13) <;> rfl
  refine ⟨outer,λ k k' hk hk'=>?_⟩;obtain ⟨k,rfl⟩:∃ i,k=i+1:=⟨k - 1,by omega⟩
  by_cases hb:(b.toNat:Int)=10
  ·rw [z7m];simp only [hlt,h0,za,cond_true,Bool.and_self,pm,h2,zd,hb,decide_true,Bool.not_true,cond_false];rw [outer k' hk'];simp [yn,Sp.blank,hb]
  ·rw [step k k' (by simp [hb]) (by simp at hk'; omega) (by simpa using hk)]
   simp [yn,hb]
def Sp.past(s:List UInt8)(j:Nat):Nat:=yn false (s.drop j) j
theorem z9x(s:List UInt8)(j:Nat)(hs:s.length≤4611686018427387904)(hj:j≤s.length):zh cx 101 [.d (.str s),.d (.int .i64 (j:Int))] []=some (.ret (.d (.int .i64 (Sp.past s j:Nat))),[]):=by
 refine xl (N:=s.length+1) zrn ?_;rw [b13];exact (zp8 hs (Nat.lt_succ_self _) (s.drop j) j rfl hj).1 _ (by simp; omega)
def z17:List V→Option Out
 | [.d (.str s)]=>some (.ret (.d (.int .i64 (ye s:Nat))))
 | _=>none
theorem zv0{args:List V}{o:Out}(h:z17 args=some o):∃ s,args=[.d (.str s)]∧o=.ret (.d (.int .i64 (ye s:Nat))):=by
 unfold z17 at h;split at h
 ·cases h; exact ⟨_,rfl,rfl⟩
 ·cases h
def S14:yk:=zhb 143 z17 (zhb 142 z1y zo)
theorem z0m:knows cx S14 (zh cx):=xw zrn λ args o hd h=>by
 obtain ⟨s,rfl,rfl⟩:=zv0 h;exact z9p s (pc hd)
theorem b14(n:Nat)(s:List UInt8):zk cx S14 n 102 [.d (.str s)] []=za (decide (s.length≤big)) (bif decide ((0:Int)<(↑(ye s):Int)) then za (decide ((↑(ye s):Int)≤(↑s.length:Int))) (some (Out.ret (V.d (D.agg [D.int .i64 (1:Int),D.str (List.drop 0 (List.take (↑(ye s):Int).toNat s)),D.int .i64 (0:Int)])),[])) else LP cx S14 n 102 0 5 n [(0,V.d (D.str s)),(2,V.ptr 2 0),(14,V.d (D.agg [D.str [45,62],D.str [47,92],D.str [92,47],D.str [40],D.str [41],D.str [91],D.str [93],D.str [44],D.str [46],D.str [58],D.str [59],D.str [61],D.str [92],D.str [60],D.str [62],D.str [64],D.str [126],D.str [42],D.str [48],D.str [49]])),(15,V.d (D.int .i64 (0:Int)))] [(2,Ob.val 3 (V.d (D.agg [D.int .i64 (0:Int),D.str [],D.int .i64 (0:Int)])))] (AK cx S14 n 102 0 5 (EK cx 102 0))):=by kernel_rfl
theorem yag(n k:Nat)(s:List UInt8):LP cx S14 n 102 0 5 (k+1) [(0,.d (.str s)),(2,.ptr 2 0),(14,.d wl),(15,.d (.int .i64 0))] [(2,.val 3 (.d (.agg [.int .i64 0,.str [],.int .i64 0])))] (AK cx S14 n 102 0 5 (EK cx 102 0))=bif zm s [45,62] then some (Out.ret (V.d (D.agg [D.int .i64 (2:Int),D.str [45,62],D.int .i64 (0:Int)])),[]) else LP cx S14 n 102 0 5 k [(0,V.d (D.str s)),(2,V.ptr 2 0),(14,V.d (D.agg [D.str [45,62],D.str [47,92],D.str [92,47],D.str [40],D.str [41],D.str [91],D.str [93],D.str [44],D.str [46],D.str [58],D.str [59],D.str [61],D.str [92],D.str [60],D.str [62],D.str [64],D.str [126],D.str [42],D.str [48],D.str [49]])),(15,V.d (D.int .i64 (1:Int)))] [(2,Ob.val 3 (V.d (D.agg [D.int .i64 (0:Int),D.str [],D.int .i64 (0:Int)])))] (AK cx S14 n 102 0 5 (EK cx 102 0)):=by kernel_rfl
theorem yaf(n k:Nat)(s:List UInt8):LP cx S14 n 102 0 5 (k+1) [(0,.d (.str s)),(2,.ptr 2 0),(14,.d wl),(15,.d (.int .i64 1))] [(2,.val 3 (.d (.agg [.int .i64 0,.str [],.int .i64 0])))] (AK cx S14 n 102 0 5 (EK cx 102 0))=bif zm s [47,92] then some (Out.ret (V.d (D.agg [D.int .i64 (2:Int),D.str [47,92],D.int .i64 (0:Int)])),[]) else LP cx S14 n 102 0 5 k [(0,V.d (D.str s)),(2,V.ptr 2 0),(14,V.d (D.agg [D.str [45,62],D.str [47,92],D.str [92,47],D.str [40],D.str [41],D.str [91],D.str [93],D.str [44],D.str [46],D.str [58],D.str [59],D.str [61],D.str [92],D.str [60],D.str [62],D.str [64],D.str [126],D.str [42],D.str [48],D.str [49]])),(15,V.d (D.int .i64 (2:Int)))] [(2,Ob.val 3 (V.d (D.agg [D.int .i64 (0:Int),D.str [],D.int .i64 (0:Int)])))] (AK cx S14 n 102 0 5 (EK cx 102 0)):=by kernel_rfl
theorem yae(n k:Nat)(s:List UInt8):LP cx S14 n 102 0 5 (k+1) [(0,.d (.str s)),(2,.ptr 2 0),(14,.d wl),(15,.d (.int .i64 2))] [(2,.val 3 (.d (.agg [.int .i64 0,.str [],.int .i64 0])))] (AK cx S14 n 102 0 5 (EK cx 102 0))=bif zm s [92,47] then some (Out.ret (V.d (D.agg [D.int .i64 (2:Int),D.str [92,47],D.int .i64 (0:Int)])),[]) else LP cx S14 n 102 0 5 k [(0,V.d (D.str s)),(2,V.ptr 2 0),(14,V.d (D.agg [D.str [45,62],D.str [47,92],D.str [92,47],D.str [40],D.str [41],D.str [91],D.str [93],D.str [44],D.str [46],D.str [58],D.str [59],D.str [61],D.str [92],D.str [60],D.str [62],D.str [64],D.str [126],D.str [42],D.str [48],D.str [49]])),(15,V.d (D.int .i64 (3:Int)))] [(2,Ob.val 3 (V.d (D.agg [D.int .i64 (0:Int),D.str [],D.int .i64 (0:Int)])))] (AK cx S14 n 102 0 5 (EK cx 102 0)):=by kernel_rfl
theorem yad(n k:Nat)(s:List UInt8):LP cx S14 n 102 0 5 (k+1) [(0,.d (.str s)),(2,.ptr 2 0),(14,.d wl),(15,.d (.int .i64 3))] [(2,.val 3 (.d (.agg [.int .i64 0,.str [],.int .i64 0])))] (AK cx S14 n 102 0 5 (EK cx 102 0))=bif zm s [40] then some (Out.ret (V.d (D.agg [D.int .i64 (2:Int),D.str [40],D.int .i64 (0:Int)])),[]) else LP cx S14 n 102 0 5 k [(0,V.d (D.str s)),(2,V.ptr 2 0),(14,V.d (D.agg [D.str [45,62],D.str [47,92],D.str [92,47],D.str [40],D.str [41],D.str [91],D.str [93],D.str [44],D.str [46],D.str [58],D.str [59],D.str [61],D.str [92],D.str [60],D.str [62],D.str [64],D.str [126],D.str [42],D.str [48],D.str [49]])),(15,V.d (D.int .i64 (4:Int)))] [(2,Ob.val 3 (V.d (D.agg [D.int .i64 (0:Int),D.str [],D.int .i64 (0:Int)])))] (AK cx S14 n 102 0 5 (EK cx 102 0)):=by kernel_rfl
theorem yac(n k:Nat)(s:List UInt8):LP cx S14 n 102 0 5 (k+1) [(0,.d (.str s)),(2,.ptr 2 0),(14,.d wl),(15,.d (.int .i64 4))] [(2,.val 3 (.d (.agg [.int .i64 0,.str [],.int .i64 0])))] (AK cx S14 n 102 0 5 (EK cx 102 0))=bif zm s [41] then some (Out.ret (V.d (D.agg [D.int .i64 (2:Int),D.str [41],D.int .i64 (0:Int)])),[]) else LP cx S14 n 102 0 5 k [(0,V.d (D.str s)),(2,V.ptr 2 0),(14,V.d (D.agg [D.str [45,62],D.str [47,92],D.str [92,47],D.str [40],D.str [41],D.str [91],D.str [93],D.str [44],D.str [46],D.str [58],D.str [59],D.str [61],D.str [92],D.str [60],D.str [62],D.str [64],D.str [126],D.str [42],D.str [48],D.str [49]])),(15,V.d (D.int .i64 (5:Int)))] [(2,Ob.val 3 (V.d (D.agg [D.int .i64 (0:Int),D.str [],D.int .i64 (0:Int)])))] (AK cx S14 n 102 0 5 (EK cx 102 0)):=by kernel_rfl
theorem yab(n k:Nat)(s:List UInt8):LP cx S14 n 102 0 5 (k+1) [(0,.d (.str s)),(2,.ptr 2 0),(14,.d wl),(15,.d (.int .i64 5))] [(2,.val 3 (.d (.agg [.int .i64 0,.str [],.int .i64 0])))] (AK cx S14 n 102 0 5 (EK cx 102 0))=bif zm s [91] then some (Out.ret (V.d (D.agg [D.int .i64 (2:Int),D.str [91],D.int .i64 (0:Int)])),[]) else LP cx S14 n 102 0 5 k [(0,V.d (D.str s)),(2,V.ptr 2 0),(14,V.d (D.agg [D.str [45,62],D.str [47,92],D.str [92,47],D.str [40],D.str [41],D.str [91],D.str [93],D.str [44],D.str [46],D.str [58],D.str [59],D.str [61],D.str [92],D.str [60],D.str [62],D.str [64],D.str [126],D.str [42],D.str [48],D.str [49]])),(15,V.d (D.int .i64 (6:Int)))] [(2,Ob.val 3 (V.d (D.agg [D.int .i64 (0:Int),D.str [],D.int .i64 (0:Int)])))] (AK cx S14 n 102 0 5 (EK cx 102 0)):=by kernel_rfl
theorem yaa(n k:Nat)(s:List UInt8):LP cx S14 n 102 0 5 (k+1) [(0,.d (.str s)),(2,.ptr 2 0),(14,.d wl),(15,.d (.int .i64 6))] [(2,.val 3 (.d (.agg [.int .i64 0,.str [],.int .i64 0])))] (AK cx S14 n 102 0 5 (EK cx 102 0))=bif zm s [93] then some (Out.ret (V.d (D.agg [D.int .i64 (2:Int),D.str [93],D.int .i64 (0:Int)])),[]) else LP cx S14 n 102 0 5 k [(0,V.d (D.str s)),(2,V.ptr 2 0),(14,V.d (D.agg [D.str [45,62],D.str [47,92],D.str [92,47],D.str [40],D.str [41],D.str [91],D.str [93],D.str [44],D.str [46],D.str [58],D.str [59],D.str [61],D.str [92],D.str [60],D.str [62],D.str [64],D.str [126],D.str [42],D.str [48],D.str [49]])),(15,V.d (D.int .i64 (7:Int)))] [(2,Ob.val 3 (V.d (D.agg [D.int .i64 (0:Int),D.str [],D.int .i64 (0:Int)])))] (AK cx S14 n 102 0 5 (EK cx 102 0)):=by kernel_rfl
theorem z99(n k:Nat)(s:List UInt8):LP cx S14 n 102 0 5 (k+1) [(0,.d (.str s)),(2,.ptr 2 0),(14,.d wl),(15,.d (.int .i64 7))] [(2,.val 3 (.d (.agg [.int .i64 0,.str [],.int .i64 0])))] (AK cx S14 n 102 0 5 (EK cx 102 0))=bif zm s [44] then some (Out.ret (V.d (D.agg [D.int .i64 (2:Int),D.str [44],D.int .i64 (0:Int)])),[]) else LP cx S14 n 102 0 5 k [(0,V.d (D.str s)),(2,V.ptr 2 0),(14,V.d (D.agg [D.str [45,62],D.str [47,92],D.str [92,47],D.str [40],D.str [41],D.str [91],D.str [93],D.str [44],D.str [46],D.str [58],D.str [59],D.str [61],D.str [92],D.str [60],D.str [62],D.str [64],D.str [126],D.str [42],D.str [48],D.str [49]])),(15,V.d (D.int .i64 (8:Int)))] [(2,Ob.val 3 (V.d (D.agg [D.int .i64 (0:Int),D.str [],D.int .i64 (0:Int)])))] (AK cx S14 n 102 0 5 (EK cx 102 0)):=by kernel_rfl
theorem z98(n k:Nat)(s:List UInt8):LP cx S14 n 102 0 5 (k+1) [(0,.d (.str s)),(2,.ptr 2 0),(14,.d wl),(15,.d (.int .i64 8))] [(2,.val 3 (.d (.agg [.int .i64 0,.str [],.int .i64 0])))] (AK cx S14 n 102 0 5 (EK cx 102 0))=bif zm s [46] then some (Out.ret (V.d (D.agg [D.int .i64 (2:Int),D.str [46],D.int .i64 (0:Int)])),[]) else LP cx S14 n 102 0 5 k [(0,V.d (D.str s)),(2,V.ptr 2 0),(14,V.d (D.agg [D.str [45,62],D.str [47,92],D.str [92,47],D.str [40],D.str [41],D.str [91],D.str [93],D.str [44],D.str [46],D.str [58],D.str [59],D.str [61],D.str [92],D.str [60],D.str [62],D.str [64],D.str [126],D.str [42],D.str [48],D.str [49]])),(15,V.d (D.int .i64 (9:Int)))] [(2,Ob.val 3 (V.d (D.agg [D.int .i64 (0:Int),D.str [],D.int .i64 (0:Int)])))] (AK cx S14 n 102 0 5 (EK cx 102 0)):=by kernel_rfl
theorem z97(n k:Nat)(s:List UInt8):LP cx S14 n 102 0 5 (k+1) [(0,.d (.str s)),(2,.ptr 2 0),(14,.d wl),(15,.d (.int .i64 9))] [(2,.val 3 (.d (.agg [.int .i64 0,.str [],.int .i64 0])))] (AK cx S14 n 102 0 5 (EK cx 102 0))=bif zm s [58] then some (Out.ret (V.d (D.agg [D.int .i64 (2:Int),D.str [58],D.int .i64 (0:Int)])),[]) else LP cx S14 n 102 0 5 k [(0,V.d (D.str s)),(2,V.ptr 2 0),(14,V.d (D.agg [D.str [45,62],D.str [47,92],D.str [92,47],D.str [40],D.str [41],D.str [91],D.str [93],D.str [44],D.str [46],D.str [58],D.str [59],D.str [61],D.str [92],D.str [60],D.str [62],D.str [64],D.str [126],D.str [42],D.str [48],D.str [49]])),(15,V.d (D.int .i64 (10:Int)))] [(2,Ob.val 3 (V.d (D.agg [D.int .i64 (0:Int),D.str [],D.int .i64 (0:Int)])))] (AK cx S14 n 102 0 5 (EK cx 102 0)):=by kernel_rfl
theorem z7l(n k:Nat)(s:List UInt8):LP cx S14 n 102 0 5 (k+1) [(0,.d (.str s)),(2,.ptr 2 0),(14,.d wl),(15,.d (.int .i64 10))] [(2,.val 3 (.d (.agg [.int .i64 0,.str [],.int .i64 0])))] (AK cx S14 n 102 0 5 (EK cx 102 0))=bif zm s [59] then some (Out.ret (V.d (D.agg [D.int .i64 (2:Int),D.str [59],D.int .i64 (0:Int)])),[]) else LP cx S14 n 102 0 5 k [(0,V.d (D.str s)),(2,V.ptr 2 0),(14,V.d (D.agg [D.str [45,62],D.str [47,92],D.str [92,47],D.str [40],D.str [41],D.str [91],D.str [93],D.str [44],D.str [46],D.str [58],D.str [59],D.str [61],D.str [92],D.str [60],D.str [62],D.str [64],D.str [126],D.str [42],D.str [48],D.str [49]])),(15,V.d (D.int .i64 (11:Int)))] [(2,Ob.val 3 (V.d (D.agg [D.int .i64 (0:Int),D.str [],D.int .i64 (0:Int)])))] (AK cx S14 n 102 0 5 (EK cx 102 0)):=by kernel_rfl
theorem z7k(n k:Nat)(s:List UInt8):LP cx S14 n 102 0 5 (k+1) [(0,.d (.str s)),(2,.ptr 2 0),(14,.d wl),(15,.d (.int .i64 11))] [(2,.val 3 (.d (.agg [.int .i64 0,.str [],.int .i64 0])))] (AK cx S14 n 102 0 5 (EK cx 102 0))=bif zm s [61] then some (Out.ret (V.d (D.agg [D.int .i64 (2:Int),D.str [61],D.int .i64 (0:Int)])),[]) else LP cx S14 n 102 0 5 k [(0,V.d (D.str s)),(2,V.ptr 2 0),(14,V.d (D.agg [D.str [45,62],D.str [47,92],D.str [92,47],D.str [40],D.str [41],D.str [91],D.str [93],D.str [44],D.str [46],D.str [58],D.str [59],D.str [61],D.str [92],D.str [60],D.str [62],D.str [64],D.str [126],D.str [42],D.str [48],D.str [49]])),(15,V.d (D.int .i64 (12:Int)))] [(2,Ob.val 3 (V.d (D.agg [D.int .i64 (0:Int),D.str [],D.int .i64 (0:Int)])))] (AK cx S14 n 102 0 5 (EK cx 102 0)):=by kernel_rfl
theorem z7j(n k:Nat)(s:List UInt8):LP cx S14 n 102 0 5 (k+1) [(0,.d (.str s)),(2,.ptr 2 0),(14,.d wl),(15,.d (.int .i64 12))] [(2,.val 3 (.d (.agg [.int .i64 0,.str [],.int .i64 0])))] (AK cx S14 n 102 0 5 (EK cx 102 0))=bif zm s [92] then some (Out.ret (V.d (D.agg [D.int .i64 (2:Int),D.str [92],D.int .i64 (0:Int)])),[]) else LP cx S14 n 102 0 5 k [(0,V.d (D.str s)),(2,V.ptr 2 0),(14,V.d (D.agg [D.str [45,62],D.str [47,92],D.str [92,47],D.str [40],D.str [41],D.str [91],D.str [93],D.str [44],D.str [46],D.str [58],D.str [59],D.str [61],D.str [92],D.str [60],D.str [62],D.str [64],D.str [126],D.str [42],D.str [48],D.str [49]])),(15,V.d (D.int .i64 (13:Int)))] [(2,Ob.val 3 (V.d (D.agg [D.int .i64 (0:Int),D.str [],D.int .i64 (0:Int)])))] (AK cx S14 n 102 0 5 (EK cx 102 0)):=by kernel_rfl
theorem z7i(n k:Nat)(s:List UInt8):LP cx S14 n 102 0 5 (k+1) [(0,.d (.str s)),(2,.ptr 2 0),(14,.d wl),(15,.d (.int .i64 13))] [(2,.val 3 (.d (.agg [.int .i64 0,.str [],.int .i64 0])))] (AK cx S14 n 102 0 5 (EK cx 102 0))=bif zm s [60] then some (Out.ret (V.d (D.agg [D.int .i64 (2:Int),D.str [60],D.int .i64 (0:Int)])),[]) else LP cx S14 n 102 0 5 k [(0,V.d (D.str s)),(2,V.ptr 2 0),(14,V.d (D.agg [D.str [45,62],D.str [47,92],D.str [92,47],D.str [40],D.str [41],D.str [91],D.str [93],D.str [44],D.str [46],D.str [58],D.str [59],D.str [61],D.str [92],D.str [60],D.str [62],D.str [64],D.str [126],D.str [42],D.str [48],D.str [49]])),(15,V.d (D.int .i64 (14:Int)))] [(2,Ob.val 3 (V.d (D.agg [D.int .i64 (0:Int),D.str [],D.int .i64 (0:Int)])))] (AK cx S14 n 102 0 5 (EK cx 102 0)):=by kernel_rfl
theorem z7h(n k:Nat)(s:List UInt8):LP cx S14 n 102 0 5 (k+1) [(0,.d (.str s)),(2,.ptr 2 0),(14,.d wl),(15,.d (.int .i64 14))] [(2,.val 3 (.d (.agg [.int .i64 0,.str [],.int .i64 0])))] (AK cx S14 n 102 0 5 (EK cx 102 0))=bif zm s [62] then some (Out.ret (V.d (D.agg [D.int .i64 (2:Int),D.str [62],D.int .i64 (0:Int)])),[]) else LP cx S14 n 102 0 5 k [(0,V.d (D.str s)),(2,V.ptr 2 0),(14,V.d (D.agg [D.str [45,62],D.str [47,92],D.str [92,47],D.str [40],D.str [41],D.str [91],D.str [93],D.str [44],D.str [46],D.str [58],D.str [59],D.str [61],D.str [92],D.str [60],D.str [62],D.str [64],D.str [126],D.str [42],D.str [48],D.str [49]])),(15,V.d (D.int .i64 (15:Int)))] [(2,Ob.val 3 (V.d (D.agg [D.int .i64 (0:Int),D.str [],D.int .i64 (0:Int)])))] (AK cx S14 n 102 0 5 (EK cx 102 0)):=by kernel_rfl
theorem z7g(n k:Nat)(s:List UInt8):LP cx S14 n 102 0 5 (k+1) [(0,.d (.str s)),(2,.ptr 2 0),(14,.d wl),(15,.d (.int .i64 15))] [(2,.val 3 (.d (.agg [.int .i64 0,.str [],.int .i64 0])))] (AK cx S14 n 102 0 5 (EK cx 102 0))=bif zm s [64] then some (Out.ret (V.d (D.agg [D.int .i64 (2:Int),D.str [64],D.int .i64 (0:Int)])),[]) else LP cx S14 n 102 0 5 k [(0,V.d (D.str s)),(2,V.ptr 2 0),(14,V.d (D.agg [D.str [45,62],D.str [47,92],D.str [92,47],D.str [40],D.str [41],D.str [91],D.str [93],D.str [44],D.str [46],D.str [58],D.str [59],D.str [61],D.str [92],D.str [60],D.str [62],D.str [64],D.str [126],D.str [42],D.str [48],D.str [49]])),(15,V.d (D.int .i64 (16:Int)))] [(2,Ob.val 3 (V.d (D.agg [D.int .i64 (0:Int),D.str [],D.int .i64 (0:Int)])))] (AK cx S14 n 102 0 5 (EK cx 102 0)):=by kernel_rfl
theorem z7f(n k:Nat)(s:List UInt8):LP cx S14 n 102 0 5 (k+1) [(0,.d (.str s)),(2,.ptr 2 0),(14,.d wl),(15,.d (.int .i64 16))] [(2,.val 3 (.d (.agg [.int .i64 0,.str [],.int .i64 0])))] (AK cx S14 n 102 0 5 (EK cx 102 0))=bif zm s [126] then some (Out.ret (V.d (D.agg [D.int .i64 (2:Int),D.str [126],D.int .i64 (0:Int)])),[]) else LP cx S14 n 102 0 5 k [(0,V.d (D.str s)),(2,V.ptr 2 0),(14,V.d (D.agg [D.str [45,62],D.str [47,92],D.str [92,47],D.str [40],D.str [41],D.str [91],D.str [93],D.str [44],D.str [46],D.str [58],D.str [59],D.str [61],D.str [92],D.str [60],D.str [62],D.str [64],D.str [126],D.str [42],D.str [48],D.str [49]])),(15,V.d (D.int .i64 (17:Int)))] [(2,Ob.val 3 (V.d (D.agg [D.int .i64 (0:Int),D.str [],D.int .i64 (0:Int)])))] (AK cx S14 n 102 0 5 (EK cx 102 0)):=by kernel_rfl
theorem z7e(n k:Nat)(s:List UInt8):LP cx S14 n 102 0 5 (k+1) [(0,.d (.str s)),(2,.ptr 2 0),(14,.d wl),(15,.d (.int .i64 17))] [(2,.val 3 (.d (.agg [.int .i64 0,.str [],.int .i64 0])))] (AK cx S14 n 102 0 5 (EK cx 102 0))=bif zm s [42] then some (Out.ret (V.d (D.agg [D.int .i64 (2:Int),D.str [42],D.int .i64 (0:Int)])),[]) else LP cx S14 n 102 0 5 k [(0,V.d (D.str s)),(2,V.ptr 2 0),(14,V.d (D.agg [D.str [45,62],D.str [47,92],D.str [92,47],D.str [40],D.str [41],D.str [91],D.str [93],D.str [44],D.str [46],D.str [58],D.str [59],D.str [61],D.str [92],D.str [60],D.str [62],D.str [64],D.str [126],D.str [42],D.str [48],D.str [49]])),(15,V.d (D.int .i64 (18:Int)))] [(2,Ob.val 3 (V.d (D.agg [D.int .i64 (0:Int),D.str [],D.int .i64 (0:Int)])))] (AK cx S14 n 102 0 5 (EK cx 102 0)):=by kernel_rfl
theorem z7d(n k:Nat)(s:List UInt8):LP cx S14 n 102 0 5 (k+1) [(0,.d (.str s)),(2,.ptr 2 0),(14,.d wl),(15,.d (.int .i64 18))] [(2,.val 3 (.d (.agg [.int .i64 0,.str [],.int .i64 0])))] (AK cx S14 n 102 0 5 (EK cx 102 0))=bif zm s [48] then some (Out.ret (V.d (D.agg [D.int .i64 (2:Int),D.str [48],D.int .i64 (0:Int)])),[]) else LP cx S14 n 102 0 5 k [(0,V.d (D.str s)),(2,V.ptr 2 0),(14,V.d (D.agg [D.str [45,62],D.str [47,92],D.str [92,47],D.str [40],D.str [41],D.str [91],D.str [93],D.str [44],D.str [46],D.str [58],D.str [59],D.str [61],D.str [92],D.str [60],D.str [62],D.str [64],D.str [126],D.str [42],D.str [48],D.str [49]])),(15,V.d (D.int .i64 (19:Int)))] [(2,Ob.val 3 (V.d (D.agg [D.int .i64 (0:Int),D.str [],D.int .i64 (0:Int)])))] (AK cx S14 n 102 0 5 (EK cx 102 0)):=by kernel_rfl
theorem z7c(n k:Nat)(s:List UInt8):LP cx S14 n 102 0 5 (k+1) [(0,.d (.str s)),(2,.ptr 2 0),(14,.d wl),(15,.d (.int .i64 19))] [(2,.val 3 (.d (.agg [.int .i64 0,.str [],.int .i64 0])))] (AK cx S14 n 102 0 5 (EK cx 102 0))=bif zm s [49] then some (Out.ret (V.d (D.agg [D.int .i64 (2:Int),D.str [49],D.int .i64 (0:Int)])),[]) else LP cx S14 n 102 0 5 k [(0,V.d (D.str s)),(2,V.ptr 2 0),(14,V.d (D.agg [D.str [45,62],D.str [47,92],D.str [92,47],D.str [40],D.str [41],D.str [91],D.str [93],D.str [44],D.str [46],D.str [58],D.str [59],D.str [61],D.str [92],D.str [60],D.str [62],D.str [64],D.str [126],D.str [42],D.str [48],D.str [49]])),(15,V.d (D.int .i64 (20:Int)))] [(2,Ob.val 3 (V.d (D.agg [D.int .i64 (0:Int),D.str [],D.int .i64 (0:Int)])))] (AK cx S14 n 102 0 5 (EK cx 102 0)):=by kernel_rfl
theorem z7b(n k:Nat)(s:List UInt8):LP cx S14 n 102 0 5 (k+1) [(0,.d (.str s)),(2,.ptr 2 0),(14,.d wl),(15,.d (.int .i64 20))] [(2,.val 3 (.d (.agg [.int .i64 0,.str [],.int .i64 0])))] (AK cx S14 n 102 0 5 (EK cx 102 0))=some (Out.ret (V.d (D.agg [D.int .i64 (0:Int),D.str [],D.int .i64 (0:Int)])),[]):=by kernel_rfl
def zcp:List (List UInt8):=[[45,62],[47,92],[92,47],[40],[41],[91],[93],[44],[46],[58],[59],[61],[92],[60],[62],[64],[126],[42],[48],[49]]
def z6(s:List UInt8):List (List UInt8)→Int×List UInt8
 | []=>(0,[])
 | x::r=>bif zm s x then (2,x) else z6 s r
def Sp.one(s:List UInt8):Int×List UInt8:=bif decide (0<ye s) then (1,s.take (ye s)) else z6 s zcp
theorem zkw:∀ (r:List UInt8) (j:Nat),xx r j≤j+r.length
 | [],j=>by simp [xx]
 | b::r,j=>by
  simp only [xx];cases (Sp.letter b.toNat||(decide (0<j)&&Sp.digit b.toNat))
  ·simp
  ·have:=zkw r (j+1);simp only [cond_true,List.length_cons];omega
theorem zir(s:List UInt8):ye s≤s.length:=by simpa [ye] using zkw s 0
def z6u(p:Int×List UInt8):Option (Out×St):=some (.ret (.d (.agg [.int .i64 p.1,.str p.2,.int .i64 0])),[])
theorem z11(s:List UInt8):LP cx S14 21 102 0 5 21 [(0,.d (.str s)),(2,.ptr 2 0),(14,.d wl),(15,.d (.int .i64 0))] [(2,.val 3 (.d (.agg [.int .i64 0,.str [],.int .i64 0])))] (AK cx S14 21 102 0 5 (EK cx 102 0)) =
  z6u (z6 s zcp):=by
 unfold zcp;refine (yag 21 20 s).trans ?_;unfold z6;cases zm s [45,62]
 case true=>rfl
 simp only [cond_false];refine (yaf 21 19 s).trans ?_;unfold z6;cases zm s [47,92]
 case true=>rfl
 simp only [cond_false];refine (yae 21 18 s).trans ?_;unfold z6;cases zm s [92,47]
 case true=>rfl
 simp only [cond_false];refine (yad 21 17 s).trans ?_;unfold z6;cases zm s [40]
 case true=>rfl
 simp only [cond_false];refine (yac 21 16 s).trans ?_;unfold z6;cases zm s [41]
 case true=>rfl
 simp only [cond_false];refine (yab 21 15 s).trans ?_;unfold z6;cases zm s [91]
 case true=>rfl
 simp only [cond_false];refine (yaa 21 14 s).trans ?_;unfold z6;cases zm s [93]
 case true=>rfl
 simp only [cond_false];refine (z99 21 13 s).trans ?_;unfold z6;cases zm s [44]
 case true=>rfl
 simp only [cond_false];refine (z98 21 12 s).trans ?_;unfold z6;cases zm s [46]
 case true=>rfl
 simp only [cond_false];refine (z97 21 11 s).trans ?_;unfold z6;cases zm s [58]
 case true=>rfl
 simp only [cond_false];refine (z7l 21 10 s).trans ?_;unfold z6;cases zm s [59]
 case true=>rfl
 simp only [cond_false];refine (z7k 21 9 s).trans ?_;unfold z6;cases zm s [61]
 case true=>rfl
 simp only [cond_false];refine (z7j 21 8 s).trans ?_;unfold z6;cases zm s [92]
 case true=>rfl
 simp only [cond_false];refine (z7i 21 7 s).trans ?_;unfold z6;cases zm s [60]
 case true=>rfl
 simp only [cond_false];refine (z7h 21 6 s).trans ?_;unfold z6;cases zm s [62]
 case true=>rfl
 simp only [cond_false];refine (z7g 21 5 s).trans ?_;unfold z6;cases zm s [64]
 case true=>rfl
 simp only [cond_false];refine (z7f 21 4 s).trans ?_;unfold z6;cases zm s [126]
 case true=>rfl
 simp only [cond_false];refine (z7e 21 3 s).trans ?_;unfold z6;cases zm s [42]
 case true=>rfl
 simp only [cond_false];refine (z7d 21 2 s).trans ?_;unfold z6;cases zm s [48]
 case true=>rfl
 simp only [cond_false];refine (z7c 21 1 s).trans ?_;unfold z6;cases zm s [49]
 case true=>rfl
 simp only [cond_false];exact z7b 21 0 s
theorem z9w(s:List UInt8)(hs:s.length≤4611686018427387904):zh cx 102 [.d (.str s)] []=some (.ret (.d (.agg [.int .i64 (Sp.one s).1,.str (Sp.one s).2,.int .i64 0])),[]):=by
 refine xl (N:=21) z0m ?_;rw [b14];have h1:decide (s.length≤big)=true:=pa hs;simp only [h1,za,cond_true];unfold Sp.one;have hle:=zir s;by_cases h:0<ye s
 ·have e1:decide ((0:Int)<((ye s:Nat):Int))=true:=pa (by omega)
  have e2:decide (((ye s:Nat):Int)≤(s.length:Int))=true:=pa (by omega)
  have e3:decide (0<ye s)=true:=pa h;simp only [e1,e2,e3,cond_true,List.drop_zero,pm]
 ·have e1:decide ((0:Int)<((ye s:Nat):Int))=false:=pb (by omega)
  have e3:decide (0<ye s)=false:=pb h;simp only [e1,e3,cond_false];exact z11 s
theorem zb7:∀ (r:List UInt8) (c:Bool) (j:Nat),j≤yn c r j∧yn c r j≤j+r.length
 | [],c,j=>by cases c <;> simp [yn]
 | b::r,true,j=>by
  have:=zb7 r (!decide ((b.toNat:Int)=10)) (j+1);simp only [yn,List.length_cons];omega
 | b::r,false,j=>by
  have h1:=zb7 r false (j+1);have h2:=zb7 r true (j+1);simp only [yn,List.length_cons];cases Sp.blank b.toNat
  ·simp only [cond_false];cases (decide ((b.toNat:Int)=45)&&zm (b::r) [45,45])
   ·simp
   ·simp only [cond_true]; omega
  ·simp only [cond_true]; omega
theorem qq{s:List UInt8}{j:Nat}(hj:j≤s.length):j≤Sp.past s j∧Sp.past s j≤s.length:=by
 have:=zb7 (s.drop j) false j;unfold Sp.past;simp at this;omega
theorem zmw(s:List UInt8):∀ (l:List (List UInt8)),(z6 s l).2=s.take (z6 s l).2.length
 | []=>by simp [z6]
 | x::l=>by
  simp only [z6];cases h:zm s x
  ·exact zmw s l
  ·simp only [cond_true];exact (pc h).symm
theorem zxw(s:List UInt8):(Sp.one s).2=s.take (Sp.one s).2.length:=by
 unfold Sp.one;by_cases h:0<ye s
 ·rw [pa h,cond_true];have:=zir s;simp [List.length_take,Nat.min_eq_left this]
 ·rw [pb h,cond_false];exact zmw s _
theorem zr1(s:List UInt8):(Sp.one s).2.length≤s.length:=by
 have:=congrArg List.length (zxw s);rw [List.length_take] at this;omega
def z8(b:UInt8):Bool:=decide (128≤b.toNat)&&decide (b.toNat≤191)
def zr:List UInt8→Nat
 | []=>0
 | b::r=>
  bif decide (b.toNat<128) then 1
  else bif decide (194≤b.toNat)&&decide (b.toNat≤223) then
   (match r with | c::_=>bif z8 c then 2 else 0 | []=>0)
  else bif decide (224≤b.toNat)&&decide (b.toNat≤239) then
   (match r with
    | c::d::_=>bif decide ((bif decide (b.toNat=224) then 160 else 128)≤c.toNat)&&decide (c.toNat≤(bif decide (b.toNat=237) then 159 else 191))&&z8 d then 3 else 0
    | _=>0)
  else bif decide (240≤b.toNat)&&decide (b.toNat≤244) then
   (match r with
    | c::d::e::_=>bif decide ((bif decide (b.toNat=240) then 144 else 128)≤c.toNat)&&decide (c.toNat≤(bif decide (b.toNat=244) then 143 else 191))&&z8 d&&z8 e then 4 else 0
    | _=>0)
  else 0
theorem zvj:∀ (l:List UInt8),zr l≤l.length
 | []=>Nat.le_refl _
 | [b]=>by
  simp only [zr];cases decide (b.toNat<128) <;> cases (decide (194≤b.toNat)&&decide (b.toNat≤223)) <;> cases (decide (224≤b.toNat)&&decide (b.toNat≤239)) <;> cases (decide (240≤b.toNat)&&decide (b.toNat≤244)) <;> simp
 | [b,c]=>by
  simp only [zr];cases decide (b.toNat<128) <;> cases (decide (194≤b.toNat)&&decide (b.toNat≤223)) <;> cases (decide (224≤b.toNat)&&decide (b.toNat≤239)) <;> cases (decide (240≤b.toNat)&&decide (b.toNat≤244)) <;> cases z8 c <;> simp
 | [b,c,d]=>by
  simp only [zr]
  cases decide (b.toNat<128) <;> cases (decide (194≤b.toNat)&&decide (b.toNat≤223)) <;> cases (decide (224≤b.toNat)&&decide (b.toNat≤239)) <;> cases (decide (240≤b.toNat)&&decide (b.toNat≤244)) <;> cases z8 c <;>
   simp only [cond_true,cond_false] <;> (try split) <;> simp_all <;> (first | omega | (rw [Bool.cond_eq_ite]; split <;> omega))
 | b::c::d::e::r=>by
  have h:zr (b::c::d::e::r)≤4:=by
   simp only [zr]
   cases decide (b.toNat<128) <;> cases (decide (194≤b.toNat)&&decide (b.toNat≤223)) <;> cases (decide (224≤b.toNat)&&decide (b.toNat≤239)) <;> cases (decide (240≤b.toNat)&&decide (b.toNat≤244)) <;> cases z8 c <;>
    simp only [cond_true,cond_false] <;> (first | omega | (rw [Bool.cond_eq_ite]; split <;> omega))
  simp only [List.length_cons];omega
def Sp.dec(s:List UInt8):Int×Int:=match zh cx 100 [.d (.str s)] [] with | some (.ret (.tup [.d (.int _ r),.d (.int _ n)]),_)=>(r,n) | _=>(0,0)
def yau:List V→Option Out | [.d (.str s)]=>some (.ret (.tup [.d (.int .i32 (Sp.dec s).1),.d (.int .i64 (Sp.dec s).2)])) | _=>none
def z5v:List V→Option Out | [.d (.str s),.d (.int .i64 a)]=>some (.ret (.d (.int .i64 (Sp.past s a.toNat:Nat)))) | _=>none
def z84:List V→Option Out | [.d (.str s)]=>some (.ret (.d (.agg [.int .i64 (Sp.one s).1,.str (Sp.one s).2,.int .i64 0]))) | _=>none
def S7:yk:=zhb 100 yau (zhb 101 z5v (zhb 102 z84 zo))
theorem b7(n:Nat)(s:List UInt8):zk cx S7 n 63 [.d (.str s)] [(0,.tok 0)]=bif decide ((65536:Int)<(↑s.length:Int)) then some (Out.ret (V.tup [V.d (D.sl 3 []),V.d (D.int .i64 (0:Int)),V.d (D.int .i64 (3:Int))]),[(0,Ob.tok 0)]) else LP cx S7 n 63 1 4 n [(0,V.d (D.str s)),(5,V.d (D.int .i64 (0:Int)))] [(0,Ob.tok 0)] (AK cx S7 n 63 1 4 (EK cx 63 1)):=by kernel_rfl
theorem l7a(n k:Nat)(s:List UInt8)(i:Int):LP cx S7 n 63 1 4 (k+1) [(0,.d (.str s)),(5,.d (.int .i64 i))] [(0,.tok 0)] (AK cx S7 n 63 1 4 (EK cx 63 1))=bif decide (i<(↑s.length:Int)) then za (decide (0≤i)&&decide (i≤(↑s.length:Int))) (za (decide ((List.drop i.toNat (List.take s.length s)).length≤big)) (bif decide ((Sp.dec (List.drop i.toNat (List.take s.length s))).fst=(65533:Int)) then bif decide ((Sp.dec (List.drop i.toNat (List.take s.length s))).snd<(2:Int)) then some (Out.ret (V.tup [V.d (D.sl 3 []),V.d (D.int .i64 i),V.d (D.int .i64 (60:Int))]),[(0,Ob.tok 0)]) else LP cx S7 n 63 1 4 k [(0,V.d (D.str s)),(5,V.d (D.int .i64 (IntKind.i64.wrap (i+(Sp.dec (List.drop i.toNat (List.take s.length s))).snd))))] [(0,Ob.tok 0)] (AK cx S7 n 63 1 4 (EK cx 63 1)) else LP cx S7 n 63 1 4 k [(0,V.d (D.str s)),(5,V.d (D.int .i64 (IntKind.i64.wrap (i+(Sp.dec (List.drop i.toNat (List.take s.length s))).snd))))] [(0,Ob.tok 0)] (AK cx S7 n 63 1 4 (EK cx 63 1)))) else za (decide (s.length≤big)&&true) (LP cx S7 n 63 1 11 n [(0,V.d (D.str s)),(8,V.sl 3 [] 9),(9,V.d (D.int .i64 (↑(Sp.past s (0:Int).toNat):Int)))] [(0,Ob.tok 0),(9,Ob.tok 0)] (AK cx S7 n 63 1 11 (EK cx 63 1))):=by kernel_rfl
theorem l7b(n k:Nat)(s:List UInt8)(i:Int)(l:List D):LP cx S7 n 63 1 11 (k+1) [(0,.d (.str s)),(8,.sl 3 l 9),(9,.d (.int .i64 i))] [(0,.tok 0),(9,.tok l.length)] (AK cx S7 n 63 1 11 (EK cx 63 1))=bif decide (i<(↑s.length:Int)) then za (decide (0≤i)&&decide (i≤(↑s.length:Int))) (za (decide ((List.drop i.toNat (List.take s.length s)).length≤big)) (bif decide ((Sp.one (List.drop i.toNat (List.take s.length s))).2=[]) then some (Out.ret (V.tup [V.d (D.sl 3 []),V.d (D.int .i64 i),V.d (D.int .i64 (61:Int))]),[(0,Ob.tok 0)]) else za (decide (l.length=l.length)&&decide (l.length+[D.agg [D.int .i64 (Sp.one (List.drop i.toNat (List.take s.length s))).fst,D.str (Sp.one (List.drop i.toNat (List.take s.length s))).2,D.int .i64 i]].length≤4294967296)) (za (decide (s.length≤big)&&(decide (0≤IntKind.i64.wrap (i+(↑(Sp.one (List.drop i.toNat (List.take s.length s))).2.length:Int)))&&decide (IntKind.i64.wrap (i+(↑(Sp.one (List.drop i.toNat (List.take s.length s))).2.length:Int))≤(↑s.length:Int)))) (LP cx S7 n 63 1 11 k [(0,V.d (D.str s)),(8,V.sl 3 (l++[D.agg [D.int .i64 (Sp.one (List.drop i.toNat (List.take s.length s))).fst,D.str (Sp.one (List.drop i.toNat (List.take s.length s))).2,D.int .i64 i]]) 9),(9,V.d (D.int .i64 (↑(Sp.past s (IntKind.i64.wrap (i+(↑(Sp.one (List.drop i.toNat (List.take s.length s))).2.length:Int))).toNat):Int)))] [(0,Ob.tok 0),(9,Ob.tok (l.length+[D.agg [D.int .i64 (Sp.one (List.drop i.toNat (List.take s.length s))).fst,D.str (Sp.one (List.drop i.toNat (List.take s.length s))).2,D.int .i64 i]].length))] (AK cx S7 n 63 1 11 (EK cx 63 1)))))) else za (decide (l.length=l.length)&&decide (l.length+[D.agg [D.int .i64 (0:Int),D.str [],D.int .i64 (↑s.length:Int)]].length≤4294967296)) (bif decide (l.length+[D.agg [D.int .i64 (0:Int),D.str [],D.int .i64 (↑s.length:Int)]].length=(l++[D.agg [D.int .i64 (0:Int),D.str [],D.int .i64 (↑s.length:Int)]]).length)&&true then some (Out.ret (V.tup [V.sl 3 (l++[D.agg [D.int .i64 (0:Int),D.str [],D.int .i64 (↑s.length:Int)]]) 0,V.d (D.int .i64 (0:Int)),V.d (D.int .i64 (0:Int))]),[(0,Ob.tok (l.length+[D.agg [D.int .i64 (0:Int),D.str [],D.int .i64 (↑s.length:Int)]].length))]) else some (Out.ret (V.tup [V.d (D.sl 3 (l++[D.agg [D.int .i64 (0:Int),D.str [],D.int .i64 (↑s.length:Int)]])),V.d (D.int .i64 (0:Int)),V.d (D.int .i64 (0:Int))]),[(0,Ob.tok 0)])):=by kernel_rfl
def zh5(k:Int)(t:List UInt8)(a:Int):D:=.agg [.int .i64 k,.str t,.int .i64 a]
def Sp.toks:Nat→List UInt8→Nat→List D→List D×Int×Int
 | 0,_,_,_=>([],0,0)
 | f+1,s,j,l=>bif decide (j<s.length) then
   (bif decide ((Sp.one (s.drop j)).2=[]) then ([],j,61)
    else Sp.toks f s (Sp.past s (j+(Sp.one (s.drop j)).2.length)) (l++[zh5 (Sp.one (s.drop j)).1 (Sp.one (s.drop j)).2 j]))
  else (l++[zh5 0 [] s.length],0,0)
def z7n(l:List D):V:=match l with | []=>.d (.sl 3 []) | x::r=>.sl 3 (x::r) 0
theorem zuf(l:List D)(x:D):z7n (l++[x])=.sl 3 (l++[x]) 0:=by cases l <;> rfl
def zfm(r:List D×Int×Int):Option (Out×St):=some (.ret (.tup [z7n r.1,.d (.int .i64 r.2.1),.d (.int .i64 r.2.2)]),[(0,.tok r.1.length)])
theorem zki{s:List UInt8}(hs:s.length≤65536)(n:Nat):∀ (f j k:Nat) (l:List D),s.length - j<f→f≤k→j≤s.length→l.length+(s.length - j)≤65536 →
  LP cx S7 n 63 1 11 k [(0,.d (.str s)),(8,.sl 3 l 9),(9,.d (.int .i64 (j:Int)))] [(0,.tok 0),(9,.tok l.length)] (AK cx S7 n 63 1 11 (EK cx 63 1))=zfm (Sp.toks f s j l)
 | 0,j,k,l,h,_,_,_=>by omega
 | f+1,j,k,l,h,hk,hj,hl=>by
  obtain ⟨k,rfl⟩:∃ i,k=i+1:=⟨k - 1,by omega⟩
  rw [l7b];have hll:decide (l.length=l.length)=true:=pa rfl;by_cases hlt:j<s.length
  ·have e1:decide ((j:Int)<(s.length:Int))=true:=pa (by omega)
   have e2:decide ((0:Int)≤(j:Int))=true:=pa (by omega)
   have e3:decide ((j:Int)≤(s.length:Int))=true:=pa (by omega)
   have e4:decide (j<s.length)=true:=pa hlt;have e5:decide ((s.drop j).length≤big)=true:=pa (by simp [big]; omega)
   have hone:=zr1 (s.drop j);rw [List.length_drop] at hone;have hw:IntKind.i64.wrap ((j:Int)+((Sp.one (s.drop j)).2.length:Int))=((j+(Sp.one (s.drop j)).2.length:Nat):Int):=by
    rw [IntWalk.i64_in _ (by omega)]; omega
   simp only [e1,e2,e3,za,cond_true,Bool.and_self,pm,List.take_length,e5,hw,Sp.toks,e4,hll,Bool.true_and];by_cases ht:(Sp.one (s.drop j)).2=[]
   ·rw [pa ht,cond_true,cond_true]; rfl
   ·rw [pb ht,cond_false,cond_false];have hpos:0<(Sp.one (s.drop j)).2.length:=List.length_pos_iff.2 ht;have hb:=qq (s:=s) (j:=j+(Sp.one (s.drop j)).2.length) (by omega)
    have ih:=zki hs n f (Sp.past s (j+(Sp.one (s.drop j)).2.length)) k (l++[zh5 (Sp.one (s.drop j)).1 (Sp.one (s.drop j)).2 j]) (by omega) (by omega) hb.2 (by simp; omega)
    have e6:decide (l.length+[D.agg [D.int .i64 (Sp.one (s.drop j)).fst,D.str (Sp.one (s.drop j)).2,D.int .i64 (j:Int)]].length≤4294967296)=true:=pa (by simp; omega)
    have e7:decide (s.length≤big)=true:=pa (by simp [big]; omega)
    have e8:decide ((0:Int)≤((j+(Sp.one (s.drop j)).2.length:Nat):Int))=true:=pa (by omega)
    have e9:decide (((j+(Sp.one (s.drop j)).2.length:Nat):Int)≤(s.length:Int))=true:=pa (by omega)
    simp only [e6,e7,e8,e9,cond_true,Bool.and_self];rw [pe] at ih;exact ih
  ·have e1:decide ((j:Int)<(s.length:Int))=false:=pb (by omega)
   have e4:decide (j<s.length)=false:=pb hlt;have e6:decide (l.length+[D.agg [D.int .i64 (0:Int),D.str [],D.int .i64 (s.length:Int)]].length≤4294967296)=true:=pa (by simp; omega)
   have e8:decide (l.length+[D.agg [D.int .i64 (0:Int),D.str [],D.int .i64 (s.length:Int)]].length=(l++[D.agg [D.int .i64 (0:Int),D.str [],D.int .i64 (s.length:Int)]]).length)=true:=pa (by simp)
   simp only [e1,cond_false,Sp.toks,e4,hll,Bool.true_and,za,e6,e8,cond_true,zfm,zh5,zuf];rw [pe,pa trivial];rfl
def wk:Nat→List UInt8→Nat→Option Nat
 | _,[],_=>none
 | 0,_::_,j=>some j
 | f+1,b::r,j=>bif Nat.beq (zr (b::r)) 0 then some j else wk f ((b::r).drop (zr (b::r))) (j+zr (b::r))
def z6f:Prop:=∀ l,l ≠ []→(zr l=0→(Sp.dec l).1=65533∧(Sp.dec l).2<2)∧(zr l ≠ 0→(Sp.dec l).2=zr l∧((Sp.dec l).2<2→(Sp.dec l).1 ≠ 65533))
def z1b(s:List UInt8):Option Nat→Option (Out×St)
 | some p=>zfm ([],p,60)
 | none=>zfm (Sp.toks (s.length+1) s (Sp.past s 0) [])
theorem z1a(hdec:z6f){s:List UInt8}(hs:s.length≤65536){n:Nat}(hn:s.length<n):∀ (f j k:Nat),s.length - j≤f→f<k→j≤s.length →
  LP cx S7 n 63 1 4 k [(0,.d (.str s)),(5,.d (.int .i64 (j:Int)))] [(0,.tok 0)] (AK cx S7 n 63 1 4 (EK cx 63 1))=z1b s (wk f (s.drop j) j):=by
 intro f
 induction f with
 | zero=>
  intro j k h hk hj;obtain ⟨k,rfl⟩:∃ i,k=i+1:=⟨k - 1,by omega⟩
  have hnil:s.drop j=[]:=List.drop_eq_nil_of_le (by omega)
  have e1:decide ((j:Int)<(s.length:Int))=false:=pb (by omega)
  have e7:decide (s.length≤big)=true:=pa (by simp [big]; omega)
  have hb:=qq (s:=s) (j:=0) (Nat.zero_le _);rw [l7a,hnil];simp only [e1,cond_false,e7,za,Bool.and_self,cond_true,Int.toNat_zero];exact zki hs n (s.length+1) (Sp.past s 0) n [] (by omega) (by omega) hb.2 (by simp; omega)
 | succ f ih=>
  intro j k h hk hj;obtain ⟨k,rfl⟩:∃ i,k=i+1:=⟨k - 1,by omega⟩
  have e7:decide (s.length≤big)=true:=pa (by simp [big]; omega)
  have hb:=qq (s:=s) (j:=0) (Nat.zero_le _);rw [l7a];cases hd:s.drop j with
  | nil=>
   have:=drop_nil hd;have e1:decide ((j:Int)<(s.length:Int))=false:=pb (by omega)
   simp only [e1,cond_false,e7,za,Bool.and_self,cond_true,Int.toNat_zero];exact zki hs n (s.length+1) (Sp.past s 0) n [] (by omega) (by omega) hb.2 (by simp; omega)
  | cons b r=>
   obtain ⟨h1,_,_⟩:=drop_cons hd;have e1:decide ((j:Int)<(s.length:Int))=true:=pa (by omega)
   have e2:decide ((0:Int)≤(j:Int))=true:=pa (by omega)
   have e3:decide ((j:Int)≤(s.length:Int))=true:=pa (by omega)
   have hlen:(b::r).length=s.length - j:=by rw [←hd]; simp
   have e5:decide ((b::r).length≤big)=true:=pa (by rw [hlen]; simp [big]; omega)
   obtain ⟨hbad,hgood⟩:=hdec (b::r) (by simp)
   simp only [e1,e2,e3,za,cond_true,Bool.and_self,pm,List.take_length,hd,e5,wk];by_cases hu:zr (b::r)=0
   ·obtain ⟨g1,g2⟩:=hbad hu;rw [pa g1,pa g2,hu];rfl
   ·obtain ⟨g1,g2⟩:=hgood hu;have hle:=zvj (b::r);have hw:IntKind.i64.wrap ((j:Int)+(Sp.dec (b::r)).2)=((j+zr (b::r):Nat):Int):=by
     rw [g1,IntWalk.i64_in _ (by omega)]; omega
    have hbq:Nat.beq (zr (b::r)) 0=false:=zi5 hu;have step:=ih (j+zr (b::r)) k (by omega) (by omega) (by omega)
    rw [←List.drop_drop,hd] at step;simp only [hbq,cond_false,hw];by_cases h65:(Sp.dec (b::r)).1=65533
    ·have h2 : ¬ (Sp.dec (b::r)).2<2:=λ hlt=>g2 hlt h65;rw [pa h65,pb h2];exact step
    ·rw [pb h65];exact step
def Sp.scan(s:List UInt8):List D×Int×Int:=
 bif decide (65536<s.length) then ([],0,3)
 else match wk s.length s 0 with
  | some p=>([],p,60)
  | none=>Sp.toks (s.length+1) s (Sp.past s 0) []
def zpb(l:List UInt8):Prop:=∃ r n:Int,zh cx 141 [.d (.str l)] []=some (.ret (.tup [.d (.int .i32 r),.d (.int .i64 n)]),[]) ∧
 (zr l=0→r=65533∧n<2)∧(zr l ≠ 0→n=zr l∧(n<2→r ≠ 65533))
theorem yf{l:List UInt8}(h:zk cx zo 0 141 [.d (.str l)] []=some (.ret (.tup [.d (.int .i32 65533),.d (.int .i64 1)]),[]))(hu:zr l=0):zpb l:=
 ⟨65533,1,xl (N:=0) (yu cx) h,λ _=>⟨rfl,by omega⟩,λ h=>absurd hu h⟩
theorem zf4{l:List UInt8}{r k:Int}(h:zk cx zo 0 141 [.d (.str l)] []=some (.ret (.tup [.d (.int .i32 r),.d (.int .i64 k)]),[]))(hu:k=zr l)(hk:2≤k):zpb l:=
 ⟨r,k,xl (N:=0) (yu cx) h,λ h0=>by omega,λ _=>⟨hu,λ h2=>by omega⟩⟩
theorem len0(b:UInt8)(l:List UInt8):decide ((0:Int)<((b::l).length:Int))=true:=pa (by simp only [List.length_cons]; omega)
theorem vx(b c:UInt8)(l:List UInt8):decide ((1:Int)<((b::c::l).length:Int))=true:=pa (by simp only [List.length_cons]; omega)
theorem vw(b c d:UInt8)(l:List UInt8):decide ((2:Int)<((b::c::d::l).length:Int))=true:=pa (by simp only [List.length_cons]; omega)
theorem vv(b c d e:UInt8)(l:List UInt8):decide ((3:Int)<((b::c::d::e::l).length:Int))=true:=pa (by simp only [List.length_cons]; omega)
theorem ge2(b c:UInt8)(l:List UInt8):decide (((b::c::l).length:Int)<(2:Int))=false:=pb (by simp only [List.length_cons]; omega)
theorem ge3(b c d:UInt8)(l:List UInt8):decide (((b::c::d::l).length:Int)<(3:Int))=false:=pb (by simp only [List.length_cons]; omega)
theorem ge4(b c d e:UInt8)(l:List UInt8):decide (((b::c::d::e::l).length:Int)<(4:Int))=false:=pb (by simp only [List.length_cons]; omega)
theorem at1(b c:UInt8)(l:List UInt8):(b::c::l)[(1:Int).toNat]?=some c:=rfl
theorem at2(b c d:UInt8)(l:List UInt8):(b::c::d::l)[(2:Int).toNat]?=some d:=rfl
theorem at3(b c d e:UInt8)(l:List UInt8):(b::c::d::e::l)[(3:Int).toNat]?=some e:=rfl
theorem zie{c:UInt8}(h1 : ¬ (c.toNat:Int)<128)(h2 : ¬ (191:Int)<(c.toNat:Int)):z8 c=true:=by
 unfold z8;rw [pa (by omega),pa (by omega)]; rfl
theorem za4{c:UInt8}(h:(c.toNat:Int)<128∨(191:Int)<(c.toNat:Int)):z8 c=false:=by
 unfold z8;rcases h with h | h
 ·rw [pb (by omega)]; rfl
 ·rw [pb (p:=c.toNat≤191) (by omega),Bool.and_false]
theorem zge(n:Nat)(S:yk)(r:List UInt8):zk cx S n 141 [.d (.str (224::r))] []=za (decide ((0:Int)<(↑(224::r).length:Int))) (bif decide ((↑(224::r).length:Int)<(3:Int)) then some (Out.ret (V.tup [V.d (D.int IntKind.i32 (65533:Int)),V.d (D.int .i64 (1:Int))]),[]) else za (decide ((1:Int)<(↑(224::r).length:Int))) (zd (224::r)[(1:Int).toNat]? λ b=>bif decide ((↑b.toNat:Int)<(160:Int)) then some (Out.ret (V.tup [V.d (D.int IntKind.i32 (65533:Int)),V.d (D.int .i64 (1:Int))]),[]) else bif decide ((191:Int)<(↑b.toNat:Int)) then some (Out.ret (V.tup [V.d (D.int IntKind.i32 (65533:Int)),V.d (D.int .i64 (1:Int))]),[]) else za (decide ((2:Int)<(↑(224::r).length:Int))) (zd (224::r)[(2:Int).toNat]? λ b_1=>bif decide ((↑b_1.toNat:Int)<(128:Int)) then some (Out.ret (V.tup [V.d (D.int IntKind.i32 (65533:Int)),V.d (D.int .i64 (1:Int))]),[]) else bif decide ((191:Int)<(↑b_1.toNat:Int)) then some (Out.ret (V.tup [V.d (D.int IntKind.i32 (65533:Int)),V.d (D.int .i64 (1:Int))]),[]) else some (Out.ret (V.tup [V.d (D.int IntKind.i32 (xd BinOp.or IntKind.i32 (xd BinOp.or IntKind.i32 (0:Int) (IntKind.i32.wrap (IntKind.i32.wrap (xd BinOp.and IntKind.u8 (↑b.toNat:Int) (63:Int)) * 2 ^ min (6:Int).toNat IntKind.i32.bits))) (IntKind.i32.wrap (xd BinOp.and IntKind.u8 (↑b_1.toNat:Int) (63:Int))))),V.d (D.int .i64 (3:Int))]),[])))):=by kernel_rfl
theorem zgd(n:Nat)(S:yk)(r:List UInt8):zk cx S n 141 [.d (.str (237::r))] []=za (decide ((0:Int)<(↑(237::r).length:Int))) (bif decide ((↑(237::r).length:Int)<(3:Int)) then some (Out.ret (V.tup [V.d (D.int IntKind.i32 (65533:Int)),V.d (D.int .i64 (1:Int))]),[]) else za (decide ((1:Int)<(↑(237::r).length:Int))) (zd (237::r)[(1:Int).toNat]? λ b=>bif decide ((↑b.toNat:Int)<(128:Int)) then some (Out.ret (V.tup [V.d (D.int IntKind.i32 (65533:Int)),V.d (D.int .i64 (1:Int))]),[]) else bif decide ((159:Int)<(↑b.toNat:Int)) then some (Out.ret (V.tup [V.d (D.int IntKind.i32 (65533:Int)),V.d (D.int .i64 (1:Int))]),[]) else za (decide ((2:Int)<(↑(237::r).length:Int))) (zd (237::r)[(2:Int).toNat]? λ b_1=>bif decide ((↑b_1.toNat:Int)<(128:Int)) then some (Out.ret (V.tup [V.d (D.int IntKind.i32 (65533:Int)),V.d (D.int .i64 (1:Int))]),[]) else bif decide ((191:Int)<(↑b_1.toNat:Int)) then some (Out.ret (V.tup [V.d (D.int IntKind.i32 (65533:Int)),V.d (D.int .i64 (1:Int))]),[]) else some (Out.ret (V.tup [V.d (D.int IntKind.i32 (xd BinOp.or IntKind.i32 (xd BinOp.or IntKind.i32 (53248:Int) (IntKind.i32.wrap (IntKind.i32.wrap (xd BinOp.and IntKind.u8 (↑b.toNat:Int) (63:Int)) * 2 ^ min (6:Int).toNat IntKind.i32.bits))) (IntKind.i32.wrap (xd BinOp.and IntKind.u8 (↑b_1.toNat:Int) (63:Int))))),V.d (D.int .i64 (3:Int))]),[])))):=by kernel_rfl
theorem zb9(n:Nat)(S:yk)(r:List UInt8):zk cx S n 141 [.d (.str (240::r))] []=za (decide ((0:Int)<(↑(240::r).length:Int))) (bif decide ((↑(240::r).length:Int)<(4:Int)) then some (Out.ret (V.tup [V.d (D.int IntKind.i32 (65533:Int)),V.d (D.int .i64 (1:Int))]),[]) else za (decide ((1:Int)<(↑(240::r).length:Int))) (zd (240::r)[(1:Int).toNat]? λ b=>bif decide ((↑b.toNat:Int)<(144:Int)) then some (Out.ret (V.tup [V.d (D.int IntKind.i32 (65533:Int)),V.d (D.int .i64 (1:Int))]),[]) else bif decide ((191:Int)<(↑b.toNat:Int)) then some (Out.ret (V.tup [V.d (D.int IntKind.i32 (65533:Int)),V.d (D.int .i64 (1:Int))]),[]) else za (decide ((2:Int)<(↑(240::r).length:Int))) (zd (240::r)[(2:Int).toNat]? λ b_1=>bif decide ((↑b_1.toNat:Int)<(128:Int)) then some (Out.ret (V.tup [V.d (D.int IntKind.i32 (65533:Int)),V.d (D.int .i64 (1:Int))]),[]) else bif decide ((191:Int)<(↑b_1.toNat:Int)) then some (Out.ret (V.tup [V.d (D.int IntKind.i32 (65533:Int)),V.d (D.int .i64 (1:Int))]),[]) else za (decide ((3:Int)<(↑(240::r).length:Int))) (zd (240::r)[(3:Int).toNat]? λ b_2=>bif decide ((↑b_2.toNat:Int)<(128:Int)) then some (Out.ret (V.tup [V.d (D.int IntKind.i32 (65533:Int)),V.d (D.int .i64 (1:Int))]),[]) else bif decide ((191:Int)<(↑b_2.toNat:Int)) then some (Out.ret (V.tup [V.d (D.int IntKind.i32 (65533:Int)),V.d (D.int .i64 (1:Int))]),[]) else some (Out.ret (V.tup [V.d (D.int IntKind.i32 (xd BinOp.or IntKind.i32 (xd BinOp.or IntKind.i32 (xd BinOp.or IntKind.i32 (0:Int) (IntKind.i32.wrap (IntKind.i32.wrap (xd BinOp.and IntKind.u8 (↑b.toNat:Int) (63:Int)) * 2 ^ min (12:Int).toNat IntKind.i32.bits))) (IntKind.i32.wrap (IntKind.i32.wrap (xd BinOp.and IntKind.u8 (↑b_1.toNat:Int) (63:Int)) * 2 ^ min (6:Int).toNat IntKind.i32.bits))) (IntKind.i32.wrap (xd BinOp.and IntKind.u8 (↑b_2.toNat:Int) (63:Int))))),V.d (D.int .i64 (4:Int))]),[]))))):=by kernel_rfl
theorem zb8(n:Nat)(S:yk)(r:List UInt8):zk cx S n 141 [.d (.str (244::r))] []=za (decide ((0:Int)<(↑(244::r).length:Int))) (bif decide ((↑(244::r).length:Int)<(4:Int)) then some (Out.ret (V.tup [V.d (D.int IntKind.i32 (65533:Int)),V.d (D.int .i64 (1:Int))]),[]) else za (decide ((1:Int)<(↑(244::r).length:Int))) (zd (244::r)[(1:Int).toNat]? λ b=>bif decide ((↑b.toNat:Int)<(128:Int)) then some (Out.ret (V.tup [V.d (D.int IntKind.i32 (65533:Int)),V.d (D.int .i64 (1:Int))]),[]) else bif decide ((143:Int)<(↑b.toNat:Int)) then some (Out.ret (V.tup [V.d (D.int IntKind.i32 (65533:Int)),V.d (D.int .i64 (1:Int))]),[]) else za (decide ((2:Int)<(↑(244::r).length:Int))) (zd (244::r)[(2:Int).toNat]? λ b_1=>bif decide ((↑b_1.toNat:Int)<(128:Int)) then some (Out.ret (V.tup [V.d (D.int IntKind.i32 (65533:Int)),V.d (D.int .i64 (1:Int))]),[]) else bif decide ((191:Int)<(↑b_1.toNat:Int)) then some (Out.ret (V.tup [V.d (D.int IntKind.i32 (65533:Int)),V.d (D.int .i64 (1:Int))]),[]) else za (decide ((3:Int)<(↑(244::r).length:Int))) (zd (244::r)[(3:Int).toNat]? λ b_2=>bif decide ((↑b_2.toNat:Int)<(128:Int)) then some (Out.ret (V.tup [V.d (D.int IntKind.i32 (65533:Int)),V.d (D.int .i64 (1:Int))]),[]) else bif decide ((191:Int)<(↑b_2.toNat:Int)) then some (Out.ret (V.tup [V.d (D.int IntKind.i32 (65533:Int)),V.d (D.int .i64 (1:Int))]),[]) else some (Out.ret (V.tup [V.d (D.int IntKind.i32 (xd BinOp.or IntKind.i32 (xd BinOp.or IntKind.i32 (xd BinOp.or IntKind.i32 (1048576:Int) (IntKind.i32.wrap (IntKind.i32.wrap (xd BinOp.and IntKind.u8 (↑b.toNat:Int) (63:Int)) * 2 ^ min (12:Int).toNat IntKind.i32.bits))) (IntKind.i32.wrap (IntKind.i32.wrap (xd BinOp.and IntKind.u8 (↑b_1.toNat:Int) (63:Int)) * 2 ^ min (6:Int).toNat IntKind.i32.bits))) (IntKind.i32.wrap (xd BinOp.and IntKind.u8 (↑b_2.toNat:Int) (63:Int))))),V.d (D.int .i64 (4:Int))]),[]))))):=by kernel_rfl
theorem z5h:∀ (l:List UInt8),zpb (224::l)
 | []=>by
  refine yf ?_ rfl;rw [zge];rfl
 | [c]=>yf (by rw [zge]; rfl) rfl
 | c::d::l=>by
  have hu:zr (224::c::d::l)=(bif decide (160≤c.toNat)&&decide (c.toNat≤191)&&z8 d then 3 else 0):=rfl;by_cases h0a:(c.toNat:Int)<160
  ·exact yf (by rw [zge]; simp only [len0,vx,vw,vv,ge2,ge3,ge4,at1,at2,at3,za,zd,cond_true,cond_false,pa h0a]) (by rw [hu,pb (p:=160≤c.toNat) (by omega)]; simp only [Bool.false_and,cond_false])
  by_cases h0b:(191:Int)<(c.toNat:Int)
  ·exact yf (by rw [zge]; simp only [len0,vx,vw,vv,ge2,ge3,ge4,at1,at2,at3,za,zd,cond_true,cond_false,pb h0a,pa h0b]) (by rw [hu,pb (p:=c.toNat≤191) (by omega)]; simp only [Bool.and_false,Bool.false_and,cond_false])
  by_cases h1a:(d.toNat:Int)<128
  ·exact yf (by rw [zge]; simp only [len0,vx,vw,vv,ge2,ge3,ge4,at1,at2,at3,za,zd,cond_true,cond_false,pb h0a,pb h0b,pa h1a]) (by rw [hu,za4 (c:=d) (.inl h1a)]; simp only [Bool.and_false,Bool.false_and,cond_false])
  by_cases h1b:(191:Int)<(d.toNat:Int)
  ·exact yf (by rw [zge]; simp only [len0,vx,vw,vv,ge2,ge3,ge4,at1,at2,at3,za,zd,cond_true,cond_false,pb h0a,pb h0b,pb h1a,pa h1b]) (by rw [hu,za4 (c:=d) (.inr h1b)]; simp only [Bool.and_false,Bool.false_and,cond_false])
  exact zf4 (k:=3) (by rw [zge]; simp only [len0,vx,vw,vv,ge2,ge3,ge4,at1,at2,at3,za,zd,cond_true,cond_false,pb h0a,pb h0b,pb h1a,pb h1b]; rfl) (by rw [hu,pa (p:=160≤c.toNat) (by omega),pa (p:=c.toNat≤191) (by omega),zie (c:=d) h1a h1b]; first | done | rfl) (by omega)
theorem z5g:∀ (l:List UInt8),zpb (237::l)
 | []=>by
  refine yf ?_ rfl;rw [zgd];rfl
 | [c]=>yf (by rw [zgd]; rfl) rfl
 | c::d::l=>by
  have hu:zr (237::c::d::l)=(bif decide (128≤c.toNat)&&decide (c.toNat≤159)&&z8 d then 3 else 0):=rfl;by_cases h0a:(c.toNat:Int)<128
  ·exact yf (by rw [zgd]; simp only [len0,vx,vw,vv,ge2,ge3,ge4,at1,at2,at3,za,zd,cond_true,cond_false,pa h0a]) (by rw [hu,pb (p:=128≤c.toNat) (by omega)]; simp only [Bool.false_and,cond_false])
  by_cases h0b:(159:Int)<(c.toNat:Int)
  ·exact yf (by rw [zgd]; simp only [len0,vx,vw,vv,ge2,ge3,ge4,at1,at2,at3,za,zd,cond_true,cond_false,pb h0a,pa h0b]) (by rw [hu,pb (p:=c.toNat≤159) (by omega)]; simp only [Bool.and_false,Bool.false_and,cond_false])
  by_cases h1a:(d.toNat:Int)<128
  ·exact yf (by rw [zgd]; simp only [len0,vx,vw,vv,ge2,ge3,ge4,at1,at2,at3,za,zd,cond_true,cond_false,pb h0a,pb h0b,pa h1a]) (by rw [hu,za4 (c:=d) (.inl h1a)]; simp only [Bool.and_false,Bool.false_and,cond_false])
  by_cases h1b:(191:Int)<(d.toNat:Int)
  ·exact yf (by rw [zgd]; simp only [len0,vx,vw,vv,ge2,ge3,ge4,at1,at2,at3,za,zd,cond_true,cond_false,pb h0a,pb h0b,pb h1a,pa h1b]) (by rw [hu,za4 (c:=d) (.inr h1b)]; simp only [Bool.and_false,Bool.false_and,cond_false])
  exact zf4 (k:=3) (by rw [zgd]; simp only [len0,vx,vw,vv,ge2,ge3,ge4,at1,at2,at3,za,zd,cond_true,cond_false,pb h0a,pb h0b,pb h1a,pb h1b]; rfl) (by rw [hu,pa (p:=128≤c.toNat) (by omega),pa (p:=c.toNat≤159) (by omega),zie (c:=d) h1a h1b]; first | done | rfl) (by omega)
theorem z5f:∀ (l:List UInt8),zpb (240::l)
 | []=>by
  refine yf ?_ rfl;rw [zb9];rfl
 | [c]=>yf (by rw [zb9]; rfl) rfl
 | [c,d]=>yf (by rw [zb9]; rfl) rfl
 | c::d::e::l=>by
  have hu:zr (240::c::d::e::l)=(bif decide (144≤c.toNat)&&decide (c.toNat≤191)&&z8 d&&z8 e then 4 else 0):=rfl;by_cases h0a:(c.toNat:Int)<144
  ·exact yf (by rw [zb9]; simp only [len0,vx,vw,vv,ge2,ge3,ge4,at1,at2,at3,za,zd,cond_true,cond_false,pa h0a]) (by rw [hu,pb (p:=144≤c.toNat) (by omega)]; simp only [Bool.false_and,cond_false])
  by_cases h0b:(191:Int)<(c.toNat:Int)
  ·exact yf (by rw [zb9]; simp only [len0,vx,vw,vv,ge2,ge3,ge4,at1,at2,at3,za,zd,cond_true,cond_false,pb h0a,pa h0b]) (by rw [hu,pb (p:=c.toNat≤191) (by omega)]; simp only [Bool.and_false,Bool.false_and,cond_false])
  by_cases h1a:(d.toNat:Int)<128
  ·exact yf (by rw [zb9]; simp only [len0,vx,vw,vv,ge2,ge3,ge4,at1,at2,at3,za,zd,cond_true,cond_false,pb h0a,pb h0b,pa h1a]) (by rw [hu,za4 (c:=d) (.inl h1a)]; simp only [Bool.and_false,Bool.false_and,cond_false])
  by_cases h1b:(191:Int)<(d.toNat:Int)
  ·exact yf (by rw [zb9]; simp only [len0,vx,vw,vv,ge2,ge3,ge4,at1,at2,at3,za,zd,cond_true,cond_false,pb h0a,pb h0b,pb h1a,pa h1b]) (by rw [hu,za4 (c:=d) (.inr h1b)]; simp only [Bool.and_false,Bool.false_and,cond_false])
  by_cases h2a:(e.toNat:Int)<128
  ·exact yf (by rw [zb9]; simp only [len0,vx,vw,vv,ge2,ge3,ge4,at1,at2,at3,za,zd,cond_true,cond_false,pb h0a,pb h0b,pb h1a,pb h1b,pa h2a]) (by rw [hu,za4 (c:=e) (.inl h2a)]; simp only [Bool.and_false,Bool.false_and,cond_false])
  by_cases h2b:(191:Int)<(e.toNat:Int)
  ·exact yf (by rw [zb9]; simp only [len0,vx,vw,vv,ge2,ge3,ge4,at1,at2,at3,za,zd,cond_true,cond_false,pb h0a,pb h0b,pb h1a,pb h1b,pb h2a,pa h2b]) (by rw [hu,za4 (c:=e) (.inr h2b)]; simp only [Bool.and_false,Bool.false_and,cond_false])
  exact zf4 (k:=4) (by rw [zb9]; simp only [len0,vx,vw,vv,ge2,ge3,ge4,at1,at2,at3,za,zd,cond_true,cond_false,pb h0a,pb h0b,pb h1a,pb h1b,pb h2a,pb h2b]; rfl) (by rw [hu,pa (p:=144≤c.toNat) (by omega),pa (p:=c.toNat≤191) (by omega),zie (c:=d) h1a h1b,zie (c:=e) h2a h2b]; first | done | rfl) (by omega)
theorem z5e:∀ (l:List UInt8),zpb (244::l)
 | []=>by
  refine yf ?_ rfl;rw [zb8];rfl
 | [c]=>yf (by rw [zb8]; rfl) rfl
 | [c,d]=>yf (by rw [zb8]; rfl) rfl
 | c::d::e::l=>by
  have hu:zr (244::c::d::e::l)=(bif decide (128≤c.toNat)&&decide (c.toNat≤143)&&z8 d&&z8 e then 4 else 0):=rfl;by_cases h0a:(c.toNat:Int)<128
  ·exact yf (by rw [zb8]; simp only [len0,vx,vw,vv,ge2,ge3,ge4,at1,at2,at3,za,zd,cond_true,cond_false,pa h0a]) (by rw [hu,pb (p:=128≤c.toNat) (by omega)]; simp only [Bool.false_and,cond_false])
  by_cases h0b:(143:Int)<(c.toNat:Int)
  ·exact yf (by rw [zb8]; simp only [len0,vx,vw,vv,ge2,ge3,ge4,at1,at2,at3,za,zd,cond_true,cond_false,pb h0a,pa h0b]) (by rw [hu,pb (p:=c.toNat≤143) (by omega)]; simp only [Bool.and_false,Bool.false_and,cond_false])
  by_cases h1a:(d.toNat:Int)<128
  ·exact yf (by rw [zb8]; simp only [len0,vx,vw,vv,ge2,ge3,ge4,at1,at2,at3,za,zd,cond_true,cond_false,pb h0a,pb h0b,pa h1a]) (by rw [hu,za4 (c:=d) (.inl h1a)]; simp only [Bool.and_false,Bool.false_and,cond_false])
  by_cases h1b:(191:Int)<(d.toNat:Int)
  ·exact yf (by rw [zb8]; simp only [len0,vx,vw,vv,ge2,ge3,ge4,at1,at2,at3,za,zd,cond_true,cond_false,pb h0a,pb h0b,pb h1a,pa h1b]) (by rw [hu,za4 (c:=d) (.inr h1b)]; simp only [Bool.and_false,Bool.false_and,cond_false])
  by_cases h2a:(e.toNat:Int)<128
  ·exact yf (by rw [zb8]; simp only [len0,vx,vw,vv,ge2,ge3,ge4,at1,at2,at3,za,zd,cond_true,cond_false,pb h0a,pb h0b,pb h1a,pb h1b,pa h2a]) (by rw [hu,za4 (c:=e) (.inl h2a)]; simp only [Bool.and_false,Bool.false_and,cond_false])
  by_cases h2b:(191:Int)<(e.toNat:Int)
  ·exact yf (by rw [zb8]; simp only [len0,vx,vw,vv,ge2,ge3,ge4,at1,at2,at3,za,zd,cond_true,cond_false,pb h0a,pb h0b,pb h1a,pb h1b,pb h2a,pa h2b]) (by rw [hu,za4 (c:=e) (.inr h2b)]; simp only [Bool.and_false,Bool.false_and,cond_false])
  exact zf4 (k:=4) (by rw [zb8]; simp only [len0,vx,vw,vv,ge2,ge3,ge4,at1,at2,at3,za,zd,cond_true,cond_false,pb h0a,pb h0b,pb h1a,pb h1b,pb h2a,pb h2b]; rfl) (by rw [hu,pa (p:=128≤c.toNat) (by omega),pa (p:=c.toNat≤143) (by omega),zie (c:=d) h1a h1b,zie (c:=e) h2a h2b]; first | done | rfl) (by omega)
theorem c58(n:Nat)(S:yk)(b:UInt8)(r:List UInt8):zk cx S n 141 [.d (.str (b::r))] []=za (decide ((0:Int)<(↑(b::r).length:Int))) (za (decide ((↑b.toNat:Int)<(↑256:Int))) (ze (D.agg (unW Pinned.utf8First)).cells (0+(↑b.toNat:Int).toNat * cx.P.cellsOf 5) λ c=>match c with
 | D.int k' n_1=>bif decide (k'=IntKind.u8) then OPS cx (CK.plain S) n 141 0 5 3 [(21,V.d (D.int .u8 n_1)),(20,V.gptr 1 (0+(↑b.toNat:Int).toNat * cx.P.cellsOf 5)),(19,V.d (D.int .u8 (↑b.toNat:Int))),(5,V.d (D.int .u8 (↑b.toNat:Int))),(18,V.d (D.int .u8 (↑b.toNat:Int))),(17,V.d (D.str (b::r))),(16,V.d (D.bool false)),(15,V.d (D.int .i64 (↑(b::r).length:Int))),(4,V.d (D.int .i64 (↑(b::r).length:Int))),(14,V.d (D.int .i64 (↑(b::r).length:Int))),(13,V.d (D.str (b::r))),(3,V.d (D.int .i64 (0:Int))),(2,V.d (D.int IntKind.i32 (0:Int))),(0,V.d (D.str (b::r)))] [] (AR cx (CK.plain S) n 141 0 5 (EK cx 141 0)) else none
 | x=>none)):=by kernel_rfl
theorem z4n(n:Nat)(S:yk)(b:UInt8)(r:List UInt8):OPS cx (CK.plain S) n 141 0 5 3 [(21,V.d (D.int .u8 241)),(20,V.gptr 1 (0+(↑b.toNat:Int).toNat * cx.P.cellsOf 5)),(19,V.d (D.int .u8 (↑b.toNat:Int))),(5,V.d (D.int .u8 (↑b.toNat:Int))),(18,V.d (D.int .u8 (↑b.toNat:Int))),(17,V.d (D.str (b::r))),(16,V.d (D.bool false)),(15,V.d (D.int .i64 (↑(b::r).length:Int))),(4,V.d (D.int .i64 (↑(b::r).length:Int))),(14,V.d (D.int .i64 (↑(b::r).length:Int))),(13,V.d (D.str (b::r))),(3,V.d (D.int .i64 (0:Int))),(2,V.d (D.int IntKind.i32 (0:Int))),(0,V.d (D.str (b::r)))] [] (AR cx (CK.plain S) n 141 0 5 (EK cx 141 0))=za (decide ((0:Int)<(↑(b::r).length:Int))) (some (Out.ret (V.tup [V.d (D.int IntKind.i32 (xd BinOp.or IntKind.i32 (xd BinOp.andNot IntKind.i32 (IntKind.i32.wrap (↑b.toNat:Int)) (Int.negSucc 0)) (65533:Int))),V.d (D.int .i64 (1:Int))]),[])):=by kernel_rfl
theorem zxx(n:Nat)(S:yk)(b:UInt8)(r:List UInt8):OPS cx (CK.plain S) n 141 0 5 3 [(21,V.d (D.int .u8 2)),(20,V.gptr 1 (0+(↑b.toNat:Int).toNat * cx.P.cellsOf 5)),(19,V.d (D.int .u8 (↑b.toNat:Int))),(5,V.d (D.int .u8 (↑b.toNat:Int))),(18,V.d (D.int .u8 (↑b.toNat:Int))),(17,V.d (D.str (b::r))),(16,V.d (D.bool false)),(15,V.d (D.int .i64 (↑(b::r).length:Int))),(4,V.d (D.int .i64 (↑(b::r).length:Int))),(14,V.d (D.int .i64 (↑(b::r).length:Int))),(13,V.d (D.str (b::r))),(3,V.d (D.int .i64 (0:Int))),(2,V.d (D.int IntKind.i32 (0:Int))),(0,V.d (D.str (b::r)))] [] (AR cx (CK.plain S) n 141 0 5 (EK cx 141 0))=bif decide ((↑(b::r).length:Int)<(2:Int)) then some (Out.ret (V.tup [V.d (D.int IntKind.i32 (65533:Int)),V.d (D.int .i64 (1:Int))]),[]) else za (decide ((1:Int)<(↑(b::r).length:Int))) (zd (b::r)[(1:Int).toNat]? λ b_1=>bif decide ((↑b_1.toNat:Int)<(128:Int)) then some (Out.ret (V.tup [V.d (D.int IntKind.i32 (65533:Int)),V.d (D.int .i64 (1:Int))]),[]) else bif decide ((191:Int)<(↑b_1.toNat:Int)) then some (Out.ret (V.tup [V.d (D.int IntKind.i32 (65533:Int)),V.d (D.int .i64 (1:Int))]),[]) else some (Out.ret (V.tup [V.d (D.int IntKind.i32 (xd BinOp.or IntKind.i32 (IntKind.i32.wrap (IntKind.i32.wrap (xd BinOp.and IntKind.u8 (↑b.toNat:Int) (31:Int)) * 2 ^ min (6:Int).toNat IntKind.i32.bits)) (IntKind.i32.wrap (xd BinOp.and IntKind.u8 (↑b_1.toNat:Int) (63:Int))))),V.d (D.int .i64 (2:Int))]),[])):=by kernel_rfl
theorem znc(n:Nat)(S:yk)(b:UInt8)(r:List UInt8):OPS cx (CK.plain S) n 141 0 5 3 [(21,V.d (D.int .u8 3)),(20,V.gptr 1 (0+(↑b.toNat:Int).toNat * cx.P.cellsOf 5)),(19,V.d (D.int .u8 (↑b.toNat:Int))),(5,V.d (D.int .u8 (↑b.toNat:Int))),(18,V.d (D.int .u8 (↑b.toNat:Int))),(17,V.d (D.str (b::r))),(16,V.d (D.bool false)),(15,V.d (D.int .i64 (↑(b::r).length:Int))),(4,V.d (D.int .i64 (↑(b::r).length:Int))),(14,V.d (D.int .i64 (↑(b::r).length:Int))),(13,V.d (D.str (b::r))),(3,V.d (D.int .i64 (0:Int))),(2,V.d (D.int IntKind.i32 (0:Int))),(0,V.d (D.str (b::r)))] [] (AR cx (CK.plain S) n 141 0 5 (EK cx 141 0))=bif decide ((↑(b::r).length:Int)<(3:Int)) then some (Out.ret (V.tup [V.d (D.int IntKind.i32 (65533:Int)),V.d (D.int .i64 (1:Int))]),[]) else za (decide ((1:Int)<(↑(b::r).length:Int))) (zd (b::r)[(1:Int).toNat]? λ b_1=>bif decide ((↑b_1.toNat:Int)<(128:Int)) then some (Out.ret (V.tup [V.d (D.int IntKind.i32 (65533:Int)),V.d (D.int .i64 (1:Int))]),[]) else bif decide ((191:Int)<(↑b_1.toNat:Int)) then some (Out.ret (V.tup [V.d (D.int IntKind.i32 (65533:Int)),V.d (D.int .i64 (1:Int))]),[]) else za (decide ((2:Int)<(↑(b::r).length:Int))) (zd (b::r)[(2:Int).toNat]? λ b_2=>bif decide ((↑b_2.toNat:Int)<(128:Int)) then some (Out.ret (V.tup [V.d (D.int IntKind.i32 (65533:Int)),V.d (D.int .i64 (1:Int))]),[]) else bif decide ((191:Int)<(↑b_2.toNat:Int)) then some (Out.ret (V.tup [V.d (D.int IntKind.i32 (65533:Int)),V.d (D.int .i64 (1:Int))]),[]) else some (Out.ret (V.tup [V.d (D.int IntKind.i32 (xd BinOp.or IntKind.i32 (xd BinOp.or IntKind.i32 (IntKind.i32.wrap (IntKind.i32.wrap (xd BinOp.and IntKind.u8 (↑b.toNat:Int) (15:Int)) * 2 ^ min (12:Int).toNat IntKind.i32.bits)) (IntKind.i32.wrap (IntKind.i32.wrap (xd BinOp.and IntKind.u8 (↑b_1.toNat:Int) (63:Int)) * 2 ^ min (6:Int).toNat IntKind.i32.bits))) (IntKind.i32.wrap (xd BinOp.and IntKind.u8 (↑b_2.toNat:Int) (63:Int))))),V.d (D.int .i64 (3:Int))]),[]))):=by kernel_rfl
theorem zib(n:Nat)(S:yk)(b:UInt8)(r:List UInt8):OPS cx (CK.plain S) n 141 0 5 3 [(21,V.d (D.int .u8 4)),(20,V.gptr 1 (0+(↑b.toNat:Int).toNat * cx.P.cellsOf 5)),(19,V.d (D.int .u8 (↑b.toNat:Int))),(5,V.d (D.int .u8 (↑b.toNat:Int))),(18,V.d (D.int .u8 (↑b.toNat:Int))),(17,V.d (D.str (b::r))),(16,V.d (D.bool false)),(15,V.d (D.int .i64 (↑(b::r).length:Int))),(4,V.d (D.int .i64 (↑(b::r).length:Int))),(14,V.d (D.int .i64 (↑(b::r).length:Int))),(13,V.d (D.str (b::r))),(3,V.d (D.int .i64 (0:Int))),(2,V.d (D.int IntKind.i32 (0:Int))),(0,V.d (D.str (b::r)))] [] (AR cx (CK.plain S) n 141 0 5 (EK cx 141 0))=bif decide ((↑(b::r).length:Int)<(4:Int)) then some (Out.ret (V.tup [V.d (D.int IntKind.i32 (65533:Int)),V.d (D.int .i64 (1:Int))]),[]) else za (decide ((1:Int)<(↑(b::r).length:Int))) (zd (b::r)[(1:Int).toNat]? λ b_1=>bif decide ((↑b_1.toNat:Int)<(128:Int)) then some (Out.ret (V.tup [V.d (D.int IntKind.i32 (65533:Int)),V.d (D.int .i64 (1:Int))]),[]) else bif decide ((191:Int)<(↑b_1.toNat:Int)) then some (Out.ret (V.tup [V.d (D.int IntKind.i32 (65533:Int)),V.d (D.int .i64 (1:Int))]),[]) else za (decide ((2:Int)<(↑(b::r).length:Int))) (zd (b::r)[(2:Int).toNat]? λ b_2=>bif decide ((↑b_2.toNat:Int)<(128:Int)) then some (Out.ret (V.tup [V.d (D.int IntKind.i32 (65533:Int)),V.d (D.int .i64 (1:Int))]),[]) else bif decide ((191:Int)<(↑b_2.toNat:Int)) then some (Out.ret (V.tup [V.d (D.int IntKind.i32 (65533:Int)),V.d (D.int .i64 (1:Int))]),[]) else za (decide ((3:Int)<(↑(b::r).length:Int))) (zd (b::r)[(3:Int).toNat]? λ b_3=>bif decide ((↑b_3.toNat:Int)<(128:Int)) then some (Out.ret (V.tup [V.d (D.int IntKind.i32 (65533:Int)),V.d (D.int .i64 (1:Int))]),[]) else bif decide ((191:Int)<(↑b_3.toNat:Int)) then some (Out.ret (V.tup [V.d (D.int IntKind.i32 (65533:Int)),V.d (D.int .i64 (1:Int))]),[]) else some (Out.ret (V.tup [V.d (D.int IntKind.i32 (xd BinOp.or IntKind.i32 (xd BinOp.or IntKind.i32 (xd BinOp.or IntKind.i32 (IntKind.i32.wrap (IntKind.i32.wrap (xd BinOp.and IntKind.u8 (↑b.toNat:Int) (7:Int)) * 2 ^ min (18:Int).toNat IntKind.i32.bits)) (IntKind.i32.wrap (IntKind.i32.wrap (xd BinOp.and IntKind.u8 (↑b_1.toNat:Int) (63:Int)) * 2 ^ min (12:Int).toNat IntKind.i32.bits))) (IntKind.i32.wrap (IntKind.i32.wrap (xd BinOp.and IntKind.u8 (↑b_2.toNat:Int) (63:Int)) * 2 ^ min (6:Int).toNat IntKind.i32.bits))) (IntKind.i32.wrap (xd BinOp.and IntKind.u8 (↑b_3.toNat:Int) (63:Int))))),V.d (D.int .i64 (4:Int))]),[])))):=by kernel_rfl
def cl(n:Nat):Int:=bif Nat.blt n 128 then 240 else bif Nat.blt n 194 then 241 else bif Nat.blt n 224 then 2 else bif Nat.beq n 224 then 19 else bif Nat.beq n 237 then 35 else bif Nat.blt n 240 then 3 else bif Nat.beq n 240 then 52 else bif Nat.blt n 244 then 4 else bif Nat.beq n 244 then 68 else 241
theorem tab:unW Go.Pinned.utf8First=(List.range 256).map λ i=>D.int .u8 (cl i):=by kernel_rfl
theorem cells5:cx.P.cellsOf 5=1:=by kernel_rfl
theorem enter{b:UInt8}{r:List UInt8}{x:Int}(h:cl b.toNat=x):zk cx zo 0 141 [.d (.str (b::r))] []=OPS cx (CK.plain zo) 0 141 0 5 3 [(21,V.d (D.int .u8 x)),(20,V.gptr 1 (0+(↑b.toNat:Int).toNat * cx.P.cellsOf 5)),(19,V.d (D.int .u8 (↑b.toNat:Int))),(5,V.d (D.int .u8 (↑b.toNat:Int))),(18,V.d (D.int .u8 (↑b.toNat:Int))),(17,V.d (D.str (b::r))),(16,V.d (D.bool false)),(15,V.d (D.int .i64 (↑(b::r).length:Int))),(4,V.d (D.int .i64 (↑(b::r).length:Int))),(14,V.d (D.int .i64 (↑(b::r).length:Int))),(13,V.d (D.str (b::r))),(3,V.d (D.int .i64 (0:Int))),(2,V.d (D.int IntKind.i32 (0:Int))),(0,V.d (D.str (b::r)))] [] (AR cx (CK.plain zo) 0 141 0 5 (EK cx 141 0)):=by
 have hb:b.toNat<256:=b.toNat_lt;rw [c58,len0,pa (p:=(b.toNat:Int)<(256:Int)) (by omega)]
 have e:∀ (R:Type) (K:D→Option R),ze (D.agg (unW Go.Pinned.utf8First)).cells (0+(b.toNat:Int).toNat * cx.P.cellsOf 5) K=K (.int .u8 x):=by
  intro R K;show ze (unW Go.Pinned.utf8First) _ K=_;unfold ze;rw [tab,cells5,Nat.zero_add,Nat.mul_one,pm,List.getElem?_map,List.getElem?_range hb];simp only [Option.map_some,h]
 simp only [za,cond_true];rw [e];simp only [decide_true,cond_true]
theorem z4s(b:UInt8):xd BinOp.or IntKind.i32 (xd BinOp.andNot IntKind.i32 (IntKind.i32.wrap (b.toNat:Int)) (Int.negSucc 0)) (65533:Int)=65533:=by
 have h:∀ i:_root_.Fin 256,xd BinOp.or IntKind.i32 (xd BinOp.andNot IntKind.i32 (IntKind.i32.wrap (i.val:Int)) (Int.negSucc 0)) (65533:Int)=65533:=by decide +kernel
 exact h ⟨b.toNat,b.toNat_lt⟩
theorem z5d(b:UInt8)(l:List UInt8)(h:cl b.toNat=241)(hu:∀ l,zr (b::l)=0):zpb (b::l):=by
 refine yf ?_ (hu l);rw [enter h,z4n,len0,z4s];rfl
theorem z74(b:UInt8)(h:cl b.toNat=2)(hu0:zr [b]=0)(hU:∀ c l,zr (b::c::l)=(bif z8 c then 2 else 0)):∀ (l:List UInt8),zpb (b::l)
 | []=>by
  refine yf ?_ hu0;rw [enter h,zxx];rfl
 | c::l=>by
  have hu:=hU c l;by_cases h0a:(c.toNat:Int)<128
  ·exact yf (by rw [enter h,zxx]; simp only [len0,vx,vw,vv,ge2,ge3,ge4,at1,at2,at3,za,zd,cond_true,cond_false,pa h0a]) (by rw [hu,za4 (c:=c) (.inl h0a)]; simp only [Bool.and_false,Bool.false_and,cond_false])
  by_cases h0b:(191:Int)<(c.toNat:Int)
  ·exact yf (by rw [enter h,zxx]; simp only [len0,vx,vw,vv,ge2,ge3,ge4,at1,at2,at3,za,zd,cond_true,cond_false,pb h0a,pa h0b]) (by rw [hu,za4 (c:=c) (.inr h0b)]; simp only [Bool.and_false,Bool.false_and,cond_false])
  exact zf4 (k:=2) (by rw [enter h,zxx]; simp only [len0,vx,vw,vv,ge2,ge3,ge4,at1,at2,at3,za,zd,cond_true,cond_false,pb h0a,pb h0b]; rfl) (by rw [hu,zie (c:=c) h0a h0b]; first | done | rfl) (by omega)
theorem z73(b:UInt8)(h:cl b.toNat=3)(hu0:zr [b]=0)(hu1:∀ c,zr [b,c]=0)(hU:∀ c d l,zr (b::c::d::l)=(bif decide (128≤c.toNat)&&decide (c.toNat≤191)&&z8 d then 3 else 0)):∀ (l:List UInt8),zpb (b::l)
 | []=>by
  refine yf ?_ hu0;rw [enter h,znc];rfl
 | [c]=>yf (by rw [enter h,znc]; rfl) (hu1 c)
 | c::d::l=>by
  have hu:=hU c d l;by_cases h0a:(c.toNat:Int)<128
  ·exact yf (by rw [enter h,znc]; simp only [len0,vx,vw,vv,ge2,ge3,ge4,at1,at2,at3,za,zd,cond_true,cond_false,pa h0a]) (by rw [hu,pb (p:=128≤c.toNat) (by omega)]; simp only [Bool.false_and,cond_false])
  by_cases h0b:(191:Int)<(c.toNat:Int)
  ·exact yf (by rw [enter h,znc]; simp only [len0,vx,vw,vv,ge2,ge3,ge4,at1,at2,at3,za,zd,cond_true,cond_false,pb h0a,pa h0b]) (by rw [hu,pb (p:=c.toNat≤191) (by omega)]; simp only [Bool.and_false,Bool.false_and,cond_false])
  by_cases h1a:(d.toNat:Int)<128
  ·exact yf (by rw [enter h,znc]; simp only [len0,vx,vw,vv,ge2,ge3,ge4,at1,at2,at3,za,zd,cond_true,cond_false,pb h0a,pb h0b,pa h1a]) (by rw [hu,za4 (c:=d) (.inl h1a)]; simp only [Bool.and_false,Bool.false_and,cond_false])
  by_cases h1b:(191:Int)<(d.toNat:Int)
  ·exact yf (by rw [enter h,znc]; simp only [len0,vx,vw,vv,ge2,ge3,ge4,at1,at2,at3,za,zd,cond_true,cond_false,pb h0a,pb h0b,pb h1a,pa h1b]) (by rw [hu,za4 (c:=d) (.inr h1b)]; simp only [Bool.and_false,Bool.false_and,cond_false])
  exact zf4 (k:=3) (by rw [enter h,znc]; simp only [len0,vx,vw,vv,ge2,ge3,ge4,at1,at2,at3,za,zd,cond_true,cond_false,pb h0a,pb h0b,pb h1a,pb h1b]; rfl) (by rw [hu,pa (p:=128≤c.toNat) (by omega),pa (p:=c.toNat≤191) (by omega),zie (c:=d) h1a h1b]; first | done | rfl) (by omega)
theorem z71(b:UInt8)(h:cl b.toNat=4)(hu0:zr [b]=0)(hu1:∀ c,zr [b,c]=0)(hu2:∀ c d,zr [b,c,d]=0)(hU:∀ c d e l,zr (b::c::d::e::l)=(bif decide (128≤c.toNat)&&decide (c.toNat≤191)&&z8 d&&z8 e then 4 else 0)):∀ (l:List UInt8),zpb (b::l)
 | []=>by
  refine yf ?_ hu0;rw [enter h,zib];rfl
 | [c]=>yf (by rw [enter h,zib]; rfl) (hu1 c)
 | [c,d]=>yf (by rw [enter h,zib]; rfl) (hu2 c d)
 | c::d::e::l=>by
  have hu:=hU c d e l;by_cases h0a:(c.toNat:Int)<128
  ·exact yf (by rw [enter h,zib]; simp only [len0,vx,vw,vv,ge2,ge3,ge4,at1,at2,at3,za,zd,cond_true,cond_false,pa h0a]) (by rw [hu,pb (p:=128≤c.toNat) (by omega)]; simp only [Bool.false_and,cond_false])
  by_cases h0b:(191:Int)<(c.toNat:Int)
  ·exact yf (by rw [enter h,zib]; simp only [len0,vx,vw,vv,ge2,ge3,ge4,at1,at2,at3,za,zd,cond_true,cond_false,pb h0a,pa h0b]) (by rw [hu,pb (p:=c.toNat≤191) (by omega)]; simp only [Bool.and_false,Bool.false_and,cond_false])
  by_cases h1a:(d.toNat:Int)<128
  ·exact yf (by rw [enter h,zib]; simp only [len0,vx,vw,vv,ge2,ge3,ge4,at1,at2,at3,za,zd,cond_true,cond_false,pb h0a,pb h0b,pa h1a]) (by rw [hu,za4 (c:=d) (.inl h1a)]; simp only [Bool.and_false,Bool.false_and,cond_false])
  by_cases h1b:(191:Int)<(d.toNat:Int)
  ·exact yf (by rw [enter h,zib]; simp only [len0,vx,vw,vv,ge2,ge3,ge4,at1,at2,at3,za,zd,cond_true,cond_false,pb h0a,pb h0b,pb h1a,pa h1b]) (by rw [hu,za4 (c:=d) (.inr h1b)]; simp only [Bool.and_false,Bool.false_and,cond_false])
  by_cases h2a:(e.toNat:Int)<128
  ·exact yf (by rw [enter h,zib]; simp only [len0,vx,vw,vv,ge2,ge3,ge4,at1,at2,at3,za,zd,cond_true,cond_false,pb h0a,pb h0b,pb h1a,pb h1b,pa h2a]) (by rw [hu,za4 (c:=e) (.inl h2a)]; simp only [Bool.and_false,Bool.false_and,cond_false])
  by_cases h2b:(191:Int)<(e.toNat:Int)
  ·exact yf (by rw [enter h,zib]; simp only [len0,vx,vw,vv,ge2,ge3,ge4,at1,at2,at3,za,zd,cond_true,cond_false,pb h0a,pb h0b,pb h1a,pb h1b,pb h2a,pa h2b]) (by rw [hu,za4 (c:=e) (.inr h2b)]; simp only [Bool.and_false,Bool.false_and,cond_false])
  exact zf4 (k:=4) (by rw [enter h,zib]; simp only [len0,vx,vw,vv,ge2,ge3,ge4,at1,at2,at3,za,zd,cond_true,cond_false,pb h0a,pb h0b,pb h1a,pb h1b,pb h2a,pb h2b]; rfl) (by rw [hu,pa (p:=128≤c.toNat) (by omega),pa (p:=c.toNat≤191) (by omega),zie (c:=d) h1a h1b,zie (c:=e) h2a h2b]; first | done | rfl) (by omega)
theorem z77:∀ i:_root_.Fin 256,128≤i.val→(cl i.val=241∧(i.val<194∨244<i.val))∨(cl i.val=2∧194≤i.val∧i.val≤223)∨i.val=224∨i.val=237∨(cl i.val=3∧225≤i.val∧i.val≤239∧i.val ≠ 237)∨i.val=240∨(cl i.val=4∧241≤i.val∧i.val≤243)∨i.val=244:=by decide +kernel
theorem d20(b:UInt8)(l:List UInt8)(h:128≤b.toNat):zpb (b::l):=by
 have f0:decide (b.toNat<128)=false:=pb (by omega)
 rcases z77 ⟨b.toNat,b.toNat_lt⟩ h with ⟨hc,hr⟩ | ⟨hc,h1,h2⟩ | hb | hb | ⟨hc,h1,h2,h3⟩ | hb | ⟨hc,h1,h2⟩ | hb
 ·simp only at hc hr;refine z5d b l hc λ l=>?_;have g1:(decide (194≤b.toNat)&&decide (b.toNat≤223))=false:=by rcases hr with hr | hr <;> simp <;> omega
  have g2:(decide (224≤b.toNat)&&decide (b.toNat≤239))=false:=by rcases hr with hr | hr <;> simp <;> omega
  have g3:(decide (240≤b.toNat)&&decide (b.toNat≤244))=false:=by rcases hr with hr | hr <;> simp <;> omega
  simp only [zr,f0,g1,g2,g3,cond_false]
 ·simp only at hc h1 h2;have g1:(decide (194≤b.toNat)&&decide (b.toNat≤223))=true:=by simp; omega
  exact z74 b hc (by simp only [zr,f0,g1,cond_false,cond_true]) (λ c l=>by simp only [zr,f0,g1,cond_false,cond_true]) l
 ·obtain rfl:b=224:=UInt8.toNat_inj.1 hb;exact z5h l
 ·obtain rfl:b=237:=UInt8.toNat_inj.1 hb;exact z5g l
 ·simp only at hc h1 h2 h3;have g1:(decide (194≤b.toNat)&&decide (b.toNat≤223))=false:=by simp; omega
  have g2:(decide (224≤b.toNat)&&decide (b.toNat≤239))=true:=by simp; omega
  have g3:decide (b.toNat=224)=false:=pb (by omega)
  have g4:decide (b.toNat=237)=false:=pb h3;exact z73 b hc (by simp only [zr,f0,g1,g2,cond_false,cond_true]) (λ c=>by simp only [zr,f0,g1,g2,cond_false,cond_true]) (λ c d l=>by simp only [zr,f0,g1,g2,g3,g4,cond_false,cond_true]) l
 ·obtain rfl:b=240:=UInt8.toNat_inj.1 hb;exact z5f l
 ·simp only at hc h1 h2;have g1:(decide (194≤b.toNat)&&decide (b.toNat≤223))=false:=by simp; omega
  have g2:(decide (224≤b.toNat)&&decide (b.toNat≤239))=false:=by simp; omega
  have g5:(decide (240≤b.toNat)&&decide (b.toNat≤244))=true:=by simp; omega
  have g3:decide (b.toNat=240)=false:=pb (by omega)
  have g4:decide (b.toNat=244)=false:=pb (by omega)
  exact z71 b hc (by simp only [zr,f0,g1,g2,g5,cond_false,cond_true]) (λ c=>by simp only [zr,f0,g1,g2,g5,cond_false,cond_true]) (λ c d=>by simp only [zr,f0,g1,g2,g5,cond_false,cond_true]) (λ c d e l=>by simp only [zr,f0,g1,g2,g3,g4,g5,cond_false,cond_true]) l
 ·obtain rfl:b=244:=UInt8.toNat_inj.1 hb;exact z5e l
def v6(s:List UInt8):Int×Int:=match zh cx 141 [.d (.str s)] [] with | some (.ret (.tup [.d (.int _ r),.d (.int _ n)]),_)=>(r,n) | _=>(0,0)
def z1q:List V→Option Out | [.d (.str (b::r))]=>some (.ret (.tup [.d (.int .i32 (v6 (b::r)).1),.d (.int .i64 (v6 (b::r)).2)])) | _=>none
def S12:yk:=zhb 141 z1q zo
theorem b12(n:Nat)(b:UInt8)(r:List UInt8):zk cx S12 n 100 [.d (.str (b::r))] []=za (decide ((0:Int)<(↑(b::r).length:Int))) (bif decide ((↑b.toNat:Int)<(128:Int)) then za (decide ((0:Int)<(↑(b::r).length:Int))) (some (Out.ret (V.tup [V.d (D.int IntKind.i32 (IntKind.i32.wrap (↑b.toNat:Int))),V.d (D.int .i64 (1:Int))]),[])) else za (decide (128≤b.toNat)) (some (Out.ret (V.tup [V.d (D.int IntKind.i32 (v6 (b::r)).fst),V.d (D.int .i64 (v6 (b::r)).snd)]),[]))):=by kernel_rfl
theorem zyx{args:List V}{o:Out}(h:z1q args=some o):∃ b r,args=[.d (.str (b::r))]∧o=.ret (.tup [.d (.int .i32 (v6 (b::r)).1),.d (.int .i64 (v6 (b::r)).2)]):=by
 unfold z1q at h;split at h
 ·cases h; exact ⟨_,_,rfl,rfl⟩
 ·cases h
theorem zxo{b:UInt8}{r:List UInt8}(h:128≤b.toNat):zh cx 141 [.d (.str (b::r))] []=some (.ret (.tup [.d (.int .i32 (v6 (b::r)).1),.d (.int .i64 (v6 (b::r)).2)]),[]) ∧
  (zr (b::r)=0→(v6 (b::r)).1=65533∧(v6 (b::r)).2<2)∧(zr (b::r) ≠ 0→(v6 (b::r)).2=zr (b::r)∧((v6 (b::r)).2<2→(v6 (b::r)).1 ≠ 65533)):=by
 obtain ⟨x,n,h1,h2,h3⟩:=d20 b r h;have e:v6 (b::r)=(x,n):=by unfold v6; rw [h1]
 rw [e];exact ⟨h1,h2,h3⟩
theorem zro:knows cx S12 (zh cx):=xw (yu cx) λ args o hd h=>by
 obtain ⟨b,r,rfl,rfl⟩:=zyx h;exact (zxo (pc hd)).1
theorem z2i(b:UInt8)(r:List UInt8):∃ x n:Int,zh cx 100 [.d (.str (b::r))] []=some (.ret (.tup [.d (.int .i32 x),.d (.int .i64 n)]),[]) ∧
  (zr (b::r)=0→x=65533∧n<2)∧(zr (b::r) ≠ 0→n=zr (b::r)∧(n<2→x ≠ 65533)):=by
 by_cases h:b.toNat<128
 ·have hu:zr (b::r)=1:=by simp only [zr,pa h,cond_true]
  refine ⟨IntKind.i32.wrap b.toNat,1,xl (N:=0) zro ?_,λ h0=>by omega,λ _=>⟨by rw [hu]; rfl,λ _ he=>?_⟩⟩
  ·rw [b12,len0,pa (p:=(b.toNat:Int)<128) (by omega)]
   rfl
  ·have:IntKind.i32.wrap (b.toNat:Int)=b.toNat:=by rw [IntKind.wrap_i32]; omega
   omega
 ·obtain ⟨h1,h2,h3⟩:=zxo (r:=r) (Nat.le_of_not_lt h);refine ⟨_,_,xl (N:=0) zro ?_,h2,h3⟩;rw [b12,len0,pb (p:=(b.toNat:Int)<128) (by omega),pa (p:=128≤b.toNat) (by omega)]
  rfl
theorem z2h:zh cx 100 [.d (.str [])] []=some (.ret (.tup [.d (.int .i32 65533),.d (.int .i64 0)]),[]):=zg0 (n:=10) (by kernel_rfl)
theorem z9y:∀ (s:List UInt8),zh cx 100 [.d (.str s)] []=some (.ret (.tup [.d (.int .i32 (Sp.dec s).1),.d (.int .i64 (Sp.dec s).2)]),[])
 | []=>by
  have e:Sp.dec []=(65533,0):=by unfold Sp.dec; rw [z2h]
  rw [e]; exact z2h
 | b::r=>by
  obtain ⟨x,n,h,_⟩:=z2i b r;have e:Sp.dec (b::r)=(x,n):=by unfold Sp.dec; rw [h]
  rw [e]; exact h
theorem yas:z6f:=by
 intro l hl;cases l with
 | nil=>exact absurd rfl hl
 | cons b r=>
  obtain ⟨x,n,h,h2⟩:=z2i b r;have e:Sp.dec (b::r)=(x,n):=by unfold Sp.dec; rw [h]
  rw [e]; exact h2
theorem zo9:knows cx S7 (zh cx):=by
 refine xw (xw (xw (yu cx) ?_) ?_) ?_
 ·intro args o hd h;unfold z84 at h;split at h
  ·cases h; exact z9w _ (pc hd)
  ·cases h
 ·intro args o hd h;unfold z5v at h;split at h
  ·cases h;rename_i s a;have hd':(decide (s.length≤big)&&(decide (0≤a)&&decide (a≤(s.length:Int))))=true:=hd;simp only [ph,decide_eq_true_eq] at hd';obtain ⟨h1,h2,h3⟩:=hd';have:=z9x s a.toNat h1 (by omega)
   rw [show ((a.toNat:Nat):Int)=a by omega] at this
   exact this
  ·cases h
 ·intro args o _ h;unfold yau at h;split at h
  ·cases h; exact z9y _
  ·cases h
theorem yb1(s:List UInt8):zh cx 63 [.d (.str s)] [(0,.tok 0)]=zfm (Sp.scan s):=by
 unfold Sp.scan;by_cases h:65536<s.length
 ·rw [pa h,cond_true];refine xl (N:=0) zo9 ?_;rw [b7,pa (p:=(65536:Int)<(s.length:Int)) (by omega)]
  rfl
 ·rw [pb h,cond_false];have hl:=z1a yas (s:=s) (by omega) (n:=s.length+1) (by omega) s.length 0 (s.length+1) (by omega) (by omega) (Nat.zero_le _)
  rw [List.drop_zero] at hl;have:zk cx S7 (s.length+1) 63 [.d (.str s)] [(0,.tok 0)]=z1b s (wk s.length s 0):=by
   rw [b7,pb (p:=(65536:Int)<(s.length:Int)) (by omega),cond_false]
   exact hl
  cases hu:wk s.length s 0 with
  | none=>rw [hu] at this; exact xl (N:=s.length+1) zo9 this
  | some p=>rw [hu] at this; exact xl (N:=s.length+1) zo9 this
theorem zqj:∀ (r:List UInt8) (j:Nat),j≤xx r j
 | [],j=>Nat.le_refl _
 | b::r,j=>by
  have:=zqj r (j+1);simp only [xx];cases (Sp.letter b.toNat||(decide (0<j)&&Sp.digit b.toNat))
  ·exact Nat.le_refl _
  ·simp only [cond_true]; omega
theorem zlm(s:List UInt8):∀ l:List (List UInt8),(z6 s l).2=[]∨(z6 s l).1=2
 | []=>.inl rfl
 | x::l=>by
  simp only [z6];cases zm s x
  ·exact zlm s l
  ·exact .inr rfl
inductive Cov (s:List UInt8):Nat→List D→Prop
 | fin {e:Nat}:e≤s.length→Sp.past s e=s.length→Cov s e [zh5 0 [] (s.length:Int)]
 | tok {e j:Nat} {k:Int} {t:List UInt8} {rest:List D}:e≤s.length→Sp.past s e=j→j<s.length→Sp.one (s.drop j)=(k,t)→t ≠ []→Cov s (j+t.length) rest→Cov s e (zh5 k t (j:Int)::rest)
theorem Cov.ne{s:List UInt8}{e:Nat}{l:List D}(h:Cov s e l):0<l.length:=by cases h <;> simp
theorem zta{s:List UInt8}:∀ (f e:Nat) (acc:List D),e≤s.length→s.length - Sp.past s e<f →
  (∃ rest,Sp.toks f s (Sp.past s e) acc=(acc++rest,0,0)∧Cov s e rest)∨(∃ p:Nat,Sp.toks f s (Sp.past s e) acc=([],(p:Int),61)∧p<s.length)
 | 0,_,_,_,hf=>by omega
 | f+1,e,acc,he,hf=>by
  have hb:=qq he;rw [Sp.toks];by_cases hlt:Sp.past s e<s.length
  ·rw [pa hlt,cond_true];have hle:=zr1 (s.drop (Sp.past s e));rw [List.length_drop] at hle;by_cases ho:(Sp.one (s.drop (Sp.past s e))).2=[]
   ·rw [pa ho,cond_true]; exact .inr ⟨_,rfl,hlt⟩
   ·rw [pb ho,cond_false];have hpos:0<(Sp.one (s.drop (Sp.past s e))).2.length:=List.length_pos_iff.2 ho;have hb2:=qq (s:=s) (j:=Sp.past s e+(Sp.one (s.drop (Sp.past s e))).2.length) (by omega)
    rcases zta (s:=s) f (Sp.past s e+(Sp.one (s.drop (Sp.past s e))).2.length) (acc++[zh5 (Sp.one (s.drop (Sp.past s e))).1 (Sp.one (s.drop (Sp.past s e))).2 (Sp.past s e:Int)]) (by omega) (by omega) with ⟨rest,h1,h2⟩ | h
    ·exact .inl ⟨_,by rw [h1,List.append_assoc]; rfl,.tok he rfl hlt rfl ho h2⟩
    ·exact .inr h
  ·rw [pb hlt,cond_false];exact .inl ⟨_,rfl,.fin he (by omega)⟩
theorem zkl(s:List UInt8):(s.length≤65536∧wk s.length s 0=none∧∃ l,Sp.scan s=(l,0,0)∧Cov s 0 l)∨(¬ (Sp.scan s).2.2=0∧(Sp.scan s).1=[]∧∃ p:Nat,(Sp.scan s).2.1=(p:Int)∧p≤s.length):=by
 unfold Sp.scan;by_cases h:65536<s.length
 ·rw [pa h,cond_true]; exact .inr ⟨by decide,rfl,0,rfl,Nat.zero_le _⟩
 ·rw [pb h,cond_false];cases hu:wk s.length s 0 with
  | none=>
   have hb:=qq (s:=s) (j:=0) (Nat.zero_le _);rcases zta (s:=s) (s.length+1) 0 [] (Nat.zero_le _) (by omega) with ⟨rest,h1,h2⟩ | ⟨p,h1,h2⟩
   ·exact .inl ⟨by omega,rfl,rest,by simpa using h1,h2⟩
   ·exact .inr (by rw [h1]; exact ⟨λ h=>absurd (show (61:Int)=0 from h) (by decide),rfl,p,rfl,by omega⟩)
  | some p=>
   refine .inr ⟨by simp,rfl,p,rfl,?_⟩
   have hle:∀ (f j p:Nat) (r:List UInt8),r.length+j≤s.length→wk f r j=some p→p≤s.length:=by
    intro f
    induction f with
    | zero=>intro j p r hr h; cases r with | nil=>cases h | cons b r=>cases h; omega
    | succ f ih=>
     intro j p r hr h;cases r with
     | nil=>cases h
     | cons b r=>
      rw [wk] at h;cases hb:Nat.beq (zr (b::r)) 0
      ·rw [hb,cond_false] at h;have:=zvj (b::r);exact ih _ p _ (by rw [List.length_drop]; omega) h
      ·rw [hb,cond_true] at h; cases h; omega
   exact hle _ _ _ _ (Nat.le_refl _) hu
def Tk(k:Int)(t:List UInt8):Prop:=(k=1∧∃ b r,t=b::r∧Sp.letter (b.toNat:Int)=true∧∀ c∈r,(Sp.letter (c.toNat:Int)||Sp.digit (c.toNat:Int))=true)∨(k=2∧t∈zcp)
def stops(r:List UInt8):Prop:=r=[]∨∃ c r',r=c::r'∧(c=32∨c=10∨c=45)
inductive LTok:List D→Prop
 | fin {a:Int}:LTok [zh5 0 [] a]
 | tok {k:Int} {t:List UInt8} {a:Int} {l:List D}:Tk k t→t.length≤65536→LTok l→LTok (zh5 k t a::l)
def kt:D→Int×List UInt8 | .agg [.int _ k,.str t,_]=>(k,t) | _=>(0,[])
abbrev R1:=Out×St
def zm8(o:Option R1)(K:Out→St→Option R1):Option R1:=match o with | some (a,s)=>K a s | none=>none
theorem vl{α:Type}(x:Option α)(F:α→Option R1)(K:Out→St→Option R1):zm8 (zd x F) K=zd x λ a=>zm8 (F a) K:=by cases x <;> rfl
theorem x7(c:Bool)(a b:Option R1)(K:Out→St→Option R1):zm8 (bif c then a else b) K=bif c then zm8 a K else zm8 b K:=by cases c <;> rfl
abbrev z82(l:List D)(i:Int):St:=[(0,.val 2 (.d (.agg [.sl 3 l,.int .i64 i])))]
structure RF where
 α:Type
 dec:List V→Option α
 go:List D→Int→α→(Out→Int→Option R1)→Option R1
 ok:∀ l i x (K:Out→St→Option R1),go l i x (λ o j=>K o (z82 l j))=zm8 (go l i x λ o j=>some (o,z82 l j)) K
abbrev up(i:Int):Int:=IntKind.i64.wrap (i+1)
theorem zq:knows cx (CK.plain (R:=R1) zo).S (zh cx):=yu cx
structure Tr where
 k:Int
 nm:List UInt8
 kids:List D
 nms:List D
 pl:Int
instance:Inhabited Tr:=⟨⟨0,[],[],[],0⟩⟩
inductive PR where
 | ok (t:Tr) (j:Int)
 | bad (a e j:Int)
inductive PN where
 | ok (l:List D) (j:Int)
 | bad (a e j:Int)
structure Tb where
 names:List D→Int→Option PN
 face:List D→Int→Option PR
 term:List D→Int→Int→Option PR
 after:List D→Int→Int→Tr→Option PR
 atom:List D→Int→Int→Option PR
 box:List D→Int→Int→Option PR
 join:List D→Int→Int→Option PR
 meet:List D→Int→Int→Option PR
 dim:List D→Int→Int→Option PR
def wg(s:List UInt8):List D:=(Sp.scan s).1
def zs1(s:List UInt8):Int:=(Sp.scan s).2.1
def zb4(s:List UInt8):Int:=(Sp.scan s).2.2
def z3o:List V→St→Option (List UInt8)
 | [.d (.str s)],[(0,.tok 0)]=>some s
 | _,_=>none
def zzp(K:Out→St→Option R1)(s:List UInt8):Option R1:=
 bif decide (zb4 s=0) then K (.ret (.tup [.sl 3 (wg s) 0,.d (.int .i64 (zs1 s)),.d (.int .i64 0)])) [(0,.tok (wg s).length)]
 else K (.ret (.tup [.d (.sl 3 []),.d (.int .i64 (zs1 s)),.d (.int .i64 (zb4 s))])) [(0,.tok 0)]
theorem z41(K:Out→St→Option R1)(s:List UInt8):zzp K s=zm8 (zzp (λ o s=>some (o,s)) s) K:=by
 unfold zzp;rw [x7];rfl
def more{α:Type}(f:Nat)(dec:List V→St→Option α)(go:(Out→St→Option R1)→α→Option R1)(ok:∀ K q,go K q=zm8 (go (λ o s=>some (o,s)) q) K)(S:CK R1):CK R1 where
 S:=λ g args σ=>bif Nat.beq g f then zd (dec args σ) λ q=>go (λ o s=>some (o,s)) q else S.S g args σ
 run:=λ g args σ K=>bif Nat.beq g f then zd (dec args σ) λ q=>go K q else S.run g args σ K
 ok:=λ g a σ K=>by
  show _=zm8 _ K;rw [x7,vl];cases Nat.beq g f
  ·exact S.ok g a σ K
  ·simp only [cond_true];congr 1;funext q;exact ok K q
theorem wi{α:Type}{f:Nat}{dec:List V→St→Option α}{go:(Out→St→Option R1)→α→Option R1}{ok:∀ K q,go K q=zm8 (go (λ o s=>some (o,s)) q) K}{S:CK R1}(hS:knows cx S.S (zh cx))
  (hf:∀ a σ q r,dec a σ=some q→go (λ o s=>some (o,s)) q=some r→zh cx f a σ=some r):knows cx (more f dec go ok S).S (zh cx):=by
 intro g args σ r hd h;simp only [more] at h;cases hg:Nat.beq g f <;> rw [hg] at h
 ·exact hS g args σ r hd h
 ·obtain rfl:=pg hg;simp only [cond_true] at h;obtain ⟨q,hq,h⟩:=zb h;exact hf args σ q r hq h
theorem z3q{s:List UInt8}{e:Nat}{l:List D}(h:Cov s e l):∃ I,l=I++[zh5 0 [] (s.length:Int)]:=by
 induction h with
 | fin _ _=>exact ⟨[],rfl⟩
 | tok _ _ _ _ _ _ ih=>obtain ⟨I,rfl⟩:=ih; exact ⟨_::I,rfl⟩
theorem scan_ok{s:List UInt8}(h:decide (zb4 s=0)=true):∃ I,wg s=I++[zh5 0 [] (s.length:Int)]:=by
 simp only [decide_eq_true_eq] at h;rcases zkl s with ⟨_,_,l,hl,hc⟩ | ⟨h1,_⟩
 ·obtain ⟨I,rfl⟩:=z3q hc;exact ⟨I,by unfold wg; rw [hl]⟩
 ·exact absurd h h1
theorem z66(a:List V)(σ:St)(s:List UInt8)(r:R1)(hd:z3o a σ=some s)(h:zzp (λ o s=>some (o,s)) s=some r):zh cx 63 a σ=some r:=by
 unfold z3o at hd;split at hd
 ·cases hd;rw [yb1];unfold zzp at h;cases hs:decide (zb4 s=0) <;> rw [hs] at h
  ·rw [cond_false] at h;simp only [decide_eq_false_iff_not] at hs;rcases zkl s with ⟨_,_,l,hl,_⟩ | ⟨_,h2,_⟩
   ·exact absurd (by unfold zb4; rw [hl]) hs
   ·rw [←h]; unfold zfm; rw [h2]; rfl
  ·obtain ⟨I,hI⟩:=scan_ok hs;have hz:(Sp.scan s).2.2=0:=pc hs;rw [cond_true] at h;rw [←h];unfold zfm;rw [hz];unfold wg zs1;have e:z7n (Sp.scan s).1=.sl 3 (Sp.scan s).1 0:=by
    have:(Sp.scan s).1=I++[zh5 0 [] (s.length:Int)]:=hI;rw [this]; exact zuf _ _
   rw [e]
 ·cases hd
def z5x:List V→Option Out | [.d (.int .u8 c)]=>some (.ret (.tup [.d (.int .i64 (yg c)),.d (.int .i64 (vd c))])) | _=>none
def S15:yk:=zhb 219 z5x zo
theorem z0l:knows cx S15 (zh cx):=xw (yu cx) λ args o _ h=>by
 unfold z5x at h;split at h
 ·cases h; exact z9o _
 ·cases h
theorem b15(n:Nat)(s:List UInt8) :
    zk cx S15 n 197 [.d (.str s)] [] =
  LP cx S15 n 197 0 2 n [(0,V.d (D.str s)),(3,V.d (D.int .i64 (0:Int)))] []
    (AK cx S15 n 197 0 2 (EK cx 197 0)):=by kernel_rfl
theorem l15(n k:Nat)(s:List UInt8)(i:Int) :
    LP cx S15 n 197 0 2 (k+1) [(0,.d (.str s)),(3,.d (.int .i64 i))] [] (AK cx S15 n 197 0 2 (EK cx 197 0)) =
  bif decide (i<(↑s.length:Int)) then
    za (decide (0≤i)&&decide (i<(↑s.length:Int)))
      (zd s[i.toNat]? λ b=>
        bif decide (yg (↑b.toNat:Int)<(0:Int)) then some (Out.ret (V.d (D.int .i64 i)),[])
        else
          bif decide ((↑s.length:Int)≤IntKind.i64.wrap (i+yg (↑b.toNat:Int))) then
            bif decide ((0:Int)<yg (↑b.toNat:Int)) then some (Out.ret (V.d (D.int .i64 i)),[])
            else
              za (decide (0≤i)&&decide (i<(↑s.length:Int)))
                (zd s[i.toNat]? λ b_1=>
                  za (decide (0≤yg (↑b.toNat:Int))&&decide (yg (↑b.toNat:Int)<(↑4:Int)))
                    (bif (0+(yg (↑b.toNat:Int)).toNat * cx.P.cellsOf 3).beq 0&&false then none
                    else
                      zju
                        (V.d
                            (D.agg
                              [D.int .i64 (128:Int),D.int .i64 (32:Int),
                                D.int .i64 (16:Int),D.int .i64 (8:Int)])).cells
                        (0+(yg (↑b.toNat:Int)).toNat * cx.P.cellsOf 3) λ c=>
                        match c with
                        | V.d x=>
                          match x with
                          | D.int k' n_1=>
                            bif decide (k'=IntKind.i64) then
                              za (!decide (n_1=0))
                                (LP cx S15 n 197 0 9 n
                                  [(0,V.d (D.str s)),(3,V.d (D.int .i64 i)),
                                    (4,V.d (D.int .i64 (yg (↑b.toNat:Int)))),
                                    (5,V.d (D.int .i64 (vd (↑b.toNat:Int)))),
                                    (7,V.d (D.int .i64 ((IntKind.i64.wrap (↑b_1.toNat:Int)).tmod n_1))),
                                    (8,V.d (D.int .i64 (1:Int)))]
                                  [] (AL cx S15 n 197 0 2 9 (inK cx S15 n 197 0 2 k (AK cx S15 n 197 0 2 (EK cx 197 0)))))
                            else none
                          | x=>none
                        | v=>
                          za
                            (decide (v.aggV=xj cx.P 3) &&
                              !match v with
                                | V.tup l=>true
                                | x=>false)
                            (match V.d (D.int .i64 (IntKind.i64.wrap (↑b_1.toNat:Int))),v with
                            | V.d (D.int k_1 a),V.d (D.int k' b_2)=>
                              bif decide (k_1=k') then
                                za (!decide (b_2=0))
                                  (LP cx S15 n 197 0 9 n
                                    [(0,V.d (D.str s)),(3,V.d (D.int .i64 i)),
                                      (4,V.d (D.int .i64 (yg (↑b.toNat:Int)))),
                                      (5,V.d (D.int .i64 (vd (↑b.toNat:Int)))),
                                      (7,V.d (D.int k_1 (a.tmod b_2))),(8,V.d (D.int .i64 (1:Int)))]
                                    [] (AL cx S15 n 197 0 2 9 (inK cx S15 n 197 0 2 k (AK cx S15 n 197 0 2 (EK cx 197 0)))))
                              else none
                            | V.d (D.str a),V.d (D.str b)=>none
                            | V.d (D.bool a),V.d (D.bool b)=>none
                            | V.d (D.iface t x),V.d D.nilIface=>none
                            | V.iface t v,V.d D.nilIface=>none
                            | V.d D.nilIface,V.d D.nilIface=>none
                            | V.ptr id off,V.d D.nilptr=>none
                            | V.d D.nilptr,V.d D.nilptr=>none
                            | x,x_1=>none)))
          else
            za (decide (0≤i)&&decide (i<(↑s.length:Int)))
              (zd s[i.toNat]? λ b_1=>
                za (decide (0≤yg (↑b.toNat:Int))&&decide (yg (↑b.toNat:Int)<(↑4:Int)))
                  (bif (0+(yg (↑b.toNat:Int)).toNat * cx.P.cellsOf 3).beq 0&&false then none
                  else
                    zju
                      (V.d
                          (D.agg
                            [D.int .i64 (128:Int),D.int .i64 (32:Int),
                              D.int .i64 (16:Int),D.int .i64 (8:Int)])).cells
                      (0+(yg (↑b.toNat:Int)).toNat * cx.P.cellsOf 3) λ c=>
                      match c with
                      | V.d x=>
                        match x with
                        | D.int k' n_1=>
                          bif decide (k'=IntKind.i64) then
                            za (!decide (n_1=0))
                              (LP cx S15 n 197 0 9 n
                                [(0,V.d (D.str s)),(3,V.d (D.int .i64 i)),
                                  (4,V.d (D.int .i64 (yg (↑b.toNat:Int)))),
                                  (5,V.d (D.int .i64 (vd (↑b.toNat:Int)))),
                                  (7,V.d (D.int .i64 ((IntKind.i64.wrap (↑b_1.toNat:Int)).tmod n_1))),
                                  (8,V.d (D.int .i64 (1:Int)))]
                                [] (AL cx S15 n 197 0 2 9 (inK cx S15 n 197 0 2 k (AK cx S15 n 197 0 2 (EK cx 197 0)))))
                          else none
                        | x=>none
                      | v=>
                        za
                          (decide (v.aggV=xj cx.P 3) &&
                            !match v with
                              | V.tup l=>true
                              | x=>false)
                          (match V.d (D.int .i64 (IntKind.i64.wrap (↑b_1.toNat:Int))),v with
                          | V.d (D.int k_1 a),V.d (D.int k' b_2)=>
                            bif decide (k_1=k') then
                              za (!decide (b_2=0))
                                (LP cx S15 n 197 0 9 n
                                  [(0,V.d (D.str s)),(3,V.d (D.int .i64 i)),
                                    (4,V.d (D.int .i64 (yg (↑b.toNat:Int)))),
                                    (5,V.d (D.int .i64 (vd (↑b.toNat:Int)))),
                                    (7,V.d (D.int k_1 (a.tmod b_2))),(8,V.d (D.int .i64 (1:Int)))]
                                  [] (AL cx S15 n 197 0 2 9 (inK cx S15 n 197 0 2 k (AK cx S15 n 197 0 2 (EK cx 197 0)))))
                            else none
                          | V.d (D.str a),V.d (D.str b)=>none
                          | V.d (D.bool a),V.d (D.bool b)=>none
                          | V.d (D.iface t x),V.d D.nilIface=>none
                          | V.iface t v,V.d D.nilIface=>none
                          | V.d D.nilIface,V.d D.nilIface=>none
                          | V.ptr id off,V.d D.nilptr=>none
                          | V.d D.nilptr,V.d D.nilptr=>none
                          | x,x_1=>none))))
  else some (Out.ret (V.d (D.int .i64 (Int.negSucc 0))),[]):=by kernel_rfl
theorem z96(n k k':Nat)(s:List UInt8)(i m low q p:Int) :
    LP cx S15 n 197 0 9 (k+1) [(0,.d (.str s)),(3,.d (.int .i64 i)),(4,.d (.int .i64 m)),(5,.d (.int .i64 low)),(7,.d (.int .i64 q)),(8,.d (.int .i64 p))] [] (AL cx S15 n 197 0 2 9 (inK cx S15 n 197 0 2 k' (AK cx S15 n 197 0 2 (EK cx 197 0)))) =
  bif decide (p≤m) then
    za (decide (0≤IntKind.i64.wrap (i+p))&&decide (IntKind.i64.wrap (i+p)<(↑s.length:Int)))
      (zd s[(IntKind.i64.wrap (i+p)).toNat]? λ b=>
        bif decide (IntKind.i64.wrap (↑b.toNat:Int)<(128:Int)) then
          some (Out.ret (V.d (D.int .i64 i)),[])
        else
          bif decide ((191:Int)<IntKind.i64.wrap (↑b.toNat:Int)) then
            some (Out.ret (V.d (D.int .i64 i)),[])
          else
            LP cx S15 n 197 0 9 k
              [(0,V.d (D.str s)),(3,V.d (D.int .i64 i)),(4,V.d (D.int .i64 m)),
                (5,V.d (D.int .i64 low)),
                (7,
                  V.d
                    (D.int .i64
                      (IntKind.i64.wrap
                        (IntKind.i64.wrap (IntKind.i64.wrap (q * (64:Int))+IntKind.i64.wrap (↑b.toNat:Int)) -
                          (128:Int))))),
                (8,V.d (D.int .i64 (IntKind.i64.wrap (p+(1:Int)))))]
              [] (AL cx S15 n 197 0 2 9 (inK cx S15 n 197 0 2 k' (AK cx S15 n 197 0 2 (EK cx 197 0)))))
  else
    bif decide (q<low) then some (Out.ret (V.d (D.int .i64 i)),[])
    else
      bif decide ((1114111:Int)<q) then some (Out.ret (V.d (D.int .i64 i)),[])
      else
        bif decide ((55296:Int)≤q) then
          bif decide (q≤(57343:Int)) then some (Out.ret (V.d (D.int .i64 i)),[])
          else
            LP cx S15 n 197 0 2 k'
              [(0,V.d (D.str s)),
                (3,V.d (D.int .i64 (IntKind.i64.wrap (IntKind.i64.wrap (i+m)+(1:Int)))))]
              [] (AK cx S15 n 197 0 2 (EK cx 197 0))
        else
          LP cx S15 n 197 0 2 k'
            [(0,V.d (D.str s)),
              (3,V.d (D.int .i64 (IntKind.i64.wrap (IntKind.i64.wrap (i+m)+(1:Int)))))]
            [] (AK cx S15 n 197 0 2 (EK cx 197 0)):=by kernel_rfl
theorem wrapN{x:Int}(h0 : -4611686018427387904≤x)(h1:x≤4711686018427387904):IntKind.i64.wrap x=x:=IntWalk.i64_in _ (by omega)
theorem zgb(b:UInt8):b.toNat<256:=b.toNat_lt
abbrev frI(s:List UInt8)(i m low q p:Int):Fr:=[(0,.d (.str s)),(3,.d (.int .i64 i)),(4,.d (.int .i64 m)),(5,.d (.int .i64 low)),(7,.d (.int .i64 q)),(8,.d (.int .i64 p))]
theorem z2r{s:List UInt8}(hs:s.length≤4611686018427387904){n k k' j p:Nat}{m low q:Int}{c:UInt8}(hp:(p:Int)≤m)(hm:m≤3)(hg:s[j+p]?=some c)(hq:0≤q)(hq2:q≤100000000) :
  LP cx S15 n 197 0 9 (k+1) (frI s j m low q p) [] (AL cx S15 n 197 0 2 9 (inK cx S15 n 197 0 2 k' (AK cx S15 n 197 0 2 (EK cx 197 0)))) =
  bif z8 c then LP cx S15 n 197 0 9 k (frI s j m low (q * 64+c.toNat - 128) ((p+1:Nat):Int)) [] (AL cx S15 n 197 0 2 9 (inK cx S15 n 197 0 2 k' (AK cx S15 n 197 0 2 (EK cx 197 0))))
  else some (.ret (.d (.int .i64 (j:Int))),[]):=by
 have hlt:j+p<s.length:=(pj.1 hg).1;have hc:=zgb c;rw [z96];have w1:IntKind.i64.wrap ((j:Int)+(p:Int))=((j+p:Nat):Int):=by rw [wrapN (by omega) (by omega)]; omega
 have w2:IntKind.i64.wrap (c.toNat:Int)=c.toNat:=wrapN (by omega) (by omega)
 have w3:IntKind.i64.wrap (q * 64)=q * 64:=wrapN (by omega) (by omega)
 have w4:IntKind.i64.wrap (q * 64+(c.toNat:Int))=q * 64+c.toNat:=wrapN (by omega) (by omega)
 have w5:IntKind.i64.wrap (q * 64+(c.toNat:Int) - 128)=q * 64+c.toNat - 128:=wrapN (by omega) (by omega)
 have w6:IntKind.i64.wrap ((p:Int)+1)=((p+1:Nat):Int):=by rw [wrapN (by omega) (by omega)]; omega
 simp only [w1,w2,w3,w4,w5,w6,pa hp,pa (p:=(0:Int)≤((j+p:Nat):Int)) (by omega),pa (p:=((j+p:Nat):Int)<(s.length:Int)) (by omega),Bool.and_self,za,cond_true,pm,hg,zd]
 unfold z8;by_cases h1:(c.toNat:Int)<128
 ·rw [pa h1,pb (p:=128≤c.toNat) (by omega)]; rfl
 ·rw [pb h1,pa (p:=128≤c.toNat) (by omega)]
  by_cases h2:(191:Int)<(c.toNat:Int)
  ·rw [pa h2,pb (p:=c.toNat≤191) (by omega)]; rfl
  ·rw [pb h2,pa (p:=c.toNat≤191) (by omega)]; rfl
abbrev zyc:D:=.agg [.int .i64 128,.int .i64 32,.int .i64 16,.int .i64 8]
theorem yal{R:Type}(F:V→Option R):zju (V.d zyc).cells (0+(0:Int).toNat * cx.P.cellsOf 3) F=F (.d (.int .i64 128)):=by kernel_rfl
theorem yak{R:Type}(F:V→Option R):zju (V.d zyc).cells (0+(1:Int).toNat * cx.P.cellsOf 3) F=F (.d (.int .i64 32)):=by kernel_rfl
theorem yaj{R:Type}(F:V→Option R):zju (V.d zyc).cells (0+(2:Int).toNat * cx.P.cellsOf 3) F=F (.d (.int .i64 16)):=by kernel_rfl
theorem yai{R:Type}(F:V→Option R):zju (V.d zyc).cells (0+(3:Int).toNat * cx.P.cellsOf 3) F=F (.d (.int .i64 8)):=by kernel_rfl
theorem zbs{s:List UInt8}(hs:s.length≤4611686018427387904){n k j:Nat}{b:UInt8}(hg:s[j]?=some b)(h:yg b.toNat<0∨(0<yg b.toNat∧yg b.toNat≤3∧(s.length:Int)≤j+yg b.toNat)) :
  LP cx S15 n 197 0 2 (k+1) [(0,.d (.str s)),(3,.d (.int .i64 (j:Int)))] [] (AK cx S15 n 197 0 2 (EK cx 197 0))=some (.ret (.d (.int .i64 (j:Int))),[]):=by
 have hlt:j<s.length:=(pj.1 hg).1;rw [l15];simp only [pa (p:=(j:Int)<(s.length:Int)) (by omega),pa (p:=(0:Int)≤(j:Int)) (by omega),Bool.and_self,za,cond_true,pm,hg,zd]
 rcases h with h | ⟨h1,h2,h3⟩
 ·rw [pa h]; rfl
 ·rw [pb (p:=yg b.toNat<0) (by omega),wrapN (x:=(j:Int)+yg b.toNat) (by omega) (by omega),pa h3,pa h1]; rfl
theorem zjr{s:List UInt8}(hs:s.length≤4611686018427387904){n k j:Nat}{b:UInt8}{m:Int}(hg:s[j]?=some b)(hm:yg b.toNat=m)(h0:0≤m)(h3:m≤3)(hle:(j:Int)+m<s.length) :
  LP cx S15 n 197 0 2 (k+1) [(0,.d (.str s)),(3,.d (.int .i64 (j:Int)))] [] (AK cx S15 n 197 0 2 (EK cx 197 0)) =
  LP cx S15 n 197 0 9 n (frI s j m (vd b.toNat) ((b.toNat:Int) % (if m=0 then 128 else if m=1 then 32 else if m=2 then 16 else 8)) 1) [] (AL cx S15 n 197 0 2 9 (inK cx S15 n 197 0 2 k (AK cx S15 n 197 0 2 (EK cx 197 0)))):=by
 have hlt:j<s.length:=(pj.1 hg).1;have hb:=zgb b;have wb:IntKind.i64.wrap (b.toNat:Int)=b.toNat:=wrapN (by omega) (by omega)
 rw [l15]
 simp only [pa (p:=(j:Int)<(s.length:Int)) (by omega),pa (p:=(0:Int)≤(j:Int)) (by omega),Bool.and_self,za,cond_true,pm,hg,zd,hm,
  pb (p:=m<0) (by omega),cond_false,wrapN (x:=(j:Int)+m) (by omega) (by omega),pb (p:=(s.length:Int)≤(j:Int)+m) (by omega),pa h0,
  pa (p:=m<((4:Nat):Int)) (by omega),Bool.and_false,wb]
 have hk:∀ d:Int,0<d→(b.toNat:Int).tmod d=(b.toNat:Int) % d:=λ d _=>Int.tmod_eq_emod_of_nonneg (by omega)
 obtain rfl | rfl | rfl | rfl:m=0∨m=1∨m=2∨m=3:=by omega
 ·rw [yal]; simp [hk]
 ·rw [yak]; simp [hk]
 ·rw [yaj]; simp [hk]
 ·rw [yai]; simp [hk]
abbrev frO(s:List UInt8)(i:Int):Fr:=[(0,.d (.str s)),(3,.d (.int .i64 i))]
theorem zhr{s:List UInt8}(hs:s.length≤4611686018427387904){n k k' j:Nat}{m low q p:Int}(hj:j≤s.length)(h0:0≤m)(h3:m≤3)(hp:m<p) :
  LP cx S15 n 197 0 9 (k+1) (frI s j m low q p) [] (AL cx S15 n 197 0 2 9 (inK cx S15 n 197 0 2 k' (AK cx S15 n 197 0 2 (EK cx 197 0)))) =
  bif decide (low≤q)&&decide (q≤1114111)&&!(decide (55296≤q)&&decide (q≤57343)) then LP cx S15 n 197 0 2 k' (frO s ((j:Int)+m+1)) [] (AK cx S15 n 197 0 2 (EK cx 197 0))
  else some (.ret (.d (.int .i64 (j:Int))),[]):=by
 rw [z96];rw [pb (p:=p≤m) (by omega),cond_false,wrapN (x:=(j:Int)+m) (by omega) (by omega),wrapN (x:=(j:Int)+m+1) (by omega) (by omega)]
 by_cases h1:q<low
 ·rw [pa h1,pb (p:=low≤q) (by omega)]; rfl
 ·rw [pb h1,pa (p:=low≤q) (by omega),cond_false]
  by_cases h2:1114111<q
  ·rw [pa h2,pb (p:=q≤1114111) (by omega)]; rfl
  ·rw [pb h2,pa (p:=q≤1114111) (by omega),cond_false]
   cases decide ((55296:Int)≤q) <;> cases decide (q≤(57343:Int)) <;> rfl
theorem zgz{b:UInt8}:yg b.toNat=if b.toNat<128 then 0 else if 194≤b.toNat∧b.toNat≤223 then 1 else if 224≤b.toNat∧b.toNat≤239 then 2 else if 240≤b.toNat∧b.toNat≤244 then 3 else -1:=by
 unfold yg;by_cases h1:b.toNat<128
 ·rw [pa (p:=(b.toNat:Int)<128) (by omega),if_pos h1]; rfl
 ·rw [pb (p:=(b.toNat:Int)<128) (by omega),if_neg h1,cond_false]
  simp only [Bool.cond_eq_ite,ph,decide_eq_true_eq];congr 1
  ·exact propext ⟨λ h=>by omega,λ h=>by omega⟩
  ·congr 1
   ·exact propext ⟨λ h=>by omega,λ h=>by omega⟩
   ·congr 1;exact propext ⟨λ h=>by omega,λ h=>by omega⟩
theorem zjz{b:UInt8}:vd b.toNat=if b.toNat<128 then 0 else if 194≤b.toNat∧b.toNat≤223 then 128 else if 224≤b.toNat∧b.toNat≤239 then 2048 else if 240≤b.toNat∧b.toNat≤244 then 65536 else 0:=by
 unfold vd;by_cases h1:b.toNat<128
 ·rw [pa (p:=(b.toNat:Int)<128) (by omega),if_pos h1]; rfl
 ·rw [pb (p:=(b.toNat:Int)<128) (by omega),if_neg h1,cond_false]
  simp only [Bool.cond_eq_ite,ph,decide_eq_true_eq];congr 1
  ·exact propext ⟨λ h=>by omega,λ h=>by omega⟩
  ·congr 1
   ·exact propext ⟨λ h=>by omega,λ h=>by omega⟩
   ·congr 1;exact propext ⟨λ h=>by omega,λ h=>by omega⟩
theorem drop_at{s:List UInt8}{j i:Nat}{l:List UInt8}(h:s.drop j=l):s[j+i]?=l[i]?:=by
 rw [←h,List.getElem?_drop]
theorem zdh{s:List UInt8}(hs:s.length≤4611686018427387904){n k k' j:Nat}{m low q P P':Int}{c:UInt8}(p:Nat)(hP:P=p)(hP':P'=P+1)(hp:P≤m)(hm:m≤3)(hg:s[j+p]?=some c)(hq:0≤q)(hq2:q≤100000000) :
  LP cx S15 n 197 0 9 (k+1) (frI s j m low q P) [] (AL cx S15 n 197 0 2 9 (inK cx S15 n 197 0 2 k' (AK cx S15 n 197 0 2 (EK cx 197 0)))) =
  bif z8 c then LP cx S15 n 197 0 9 k (frI s j m low (q * 64+c.toNat - 128) P') [] (AL cx S15 n 197 0 2 9 (inK cx S15 n 197 0 2 k' (AK cx S15 n 197 0 2 (EK cx 197 0))))
  else some (.ret (.d (.int .i64 (j:Int))),[]):=by
 subst hP';subst hP;rw [z2r hs hp hm hg hq hq2];rfl
theorem zwh{b c:UInt8}(_:True)(hc:z8 c=false):(decide ((bif decide (b.toNat=224) then 160 else 128)≤c.toNat)&&decide (c.toNat≤(bif decide (b.toNat=237) then 159 else 191)))=false:=by
 have hc' : ¬ (128≤c.toNat∧c.toNat≤191):=by
  intro h; rw [z8,pa h.1,pa h.2] at hc; cases hc
 rw [Bool.eq_false_iff];intro hh;simp only [ph,decide_eq_true_eq,Bool.cond_eq_ite] at hh;apply hc';split at hh <;> split at hh <;> omega
theorem zum{b c:UInt8}(_:True)(hc:z8 c=false):(decide ((bif decide (b.toNat=240) then 144 else 128)≤c.toNat)&&decide (c.toNat≤(bif decide (b.toNat=244) then 143 else 191)))=false:=by
 have hc' : ¬ (128≤c.toNat∧c.toNat≤191):=by
  intro h; rw [z8,pa h.1,pa h.2] at hc; cases hc
 rw [Bool.eq_false_iff];intro hh;simp only [ph,decide_eq_true_eq,Bool.cond_eq_ite] at hh;apply hc';split at hh <;> split at hh <;> omega
theorem yay{b c d:UInt8}(hb:224≤b.toNat∧b.toNat≤239)(hc:128≤c.toNat∧c.toNat≤191)(hd:128≤d.toNat∧d.toNat≤191) :
  (decide (2048≤((b.toNat:Int) % 16 * 64+c.toNat - 128) * 64+d.toNat - 128)&&decide (((b.toNat:Int) % 16 * 64+c.toNat - 128) * 64+d.toNat - 128≤1114111)&&!(decide (55296≤((b.toNat:Int) % 16 * 64+c.toNat - 128) * 64+d.toNat - 128)&&decide (((b.toNat:Int) % 16 * 64+c.toNat - 128) * 64+d.toNat - 128≤57343))) =
  (decide ((bif decide (b.toNat=224) then 160 else 128)≤c.toNat)&&decide (c.toNat≤(bif decide (b.toNat=237) then 159 else 191))):=by
 rw [Bool.eq_iff_iff];simp only [ph,decide_eq_true_eq,Bool.cond_eq_ite,Bool.not_eq_true',Bool.and_eq_false_iff,decide_eq_false_iff_not];split <;> split <;> constructor <;> intro h <;> omega
theorem yax{b c d e:UInt8}(hb:240≤b.toNat∧b.toNat≤244)(hc:128≤c.toNat∧c.toNat≤191)(hd:128≤d.toNat∧d.toNat≤191)(he:128≤e.toNat∧e.toNat≤191) :
  (decide (65536≤(((b.toNat:Int) % 8 * 64+c.toNat - 128) * 64+d.toNat - 128) * 64+e.toNat - 128)&&decide ((((b.toNat:Int) % 8 * 64+c.toNat - 128) * 64+d.toNat - 128) * 64+e.toNat - 128≤1114111)&&!(decide (55296≤(((b.toNat:Int) % 8 * 64+c.toNat - 128) * 64+d.toNat - 128) * 64+e.toNat - 128)&&decide ((((b.toNat:Int) % 8 * 64+c.toNat - 128) * 64+d.toNat - 128) * 64+e.toNat - 128≤57343))) =
  (decide ((bif decide (b.toNat=240) then 144 else 128)≤c.toNat)&&decide (c.toNat≤(bif decide (b.toNat=244) then 143 else 191))):=by
 rw [Bool.eq_iff_iff];simp only [ph,decide_eq_true_eq,Bool.cond_eq_ite,Bool.not_eq_true',Bool.and_eq_false_iff,decide_eq_false_iff_not];split <;> split <;> constructor <;> intro h <;> omega
theorem z09{s:List UInt8}(hs:s.length≤4611686018427387904){n k j:Nat}(hn:5≤n){b:UInt8}{r:List UInt8}(hd:s.drop j=b::r) :
  LP cx S15 n 197 0 2 (k+1) (frO s (j:Int)) [] (AK cx S15 n 197 0 2 (EK cx 197 0)) =
  bif Nat.beq (zr (b::r)) 0 then some (.ret (.d (.int .i64 (j:Int))),[]) else LP cx S15 n 197 0 2 k (frO s ((j+zr (b::r):Nat):Int)) [] (AK cx S15 n 197 0 2 (EK cx 197 0)):=by
 obtain ⟨h1,hg,_⟩:=drop_cons hd;have hb:=zgb b;have hlen:(b::r).length=s.length - j:=by rw [←hd]; simp
 obtain ⟨n,rfl⟩:∃ i,n=i+5:=⟨n - 5,by omega⟩
 by_cases c0:b.toNat<128
 ·have hN:yg b.toNat=0:=by rw [zgz,if_pos c0]
  have hL:vd b.toNat=0:=by rw [zjz,if_pos c0]
  have hu:zr (b::r)=1:=by simp only [zr,pa c0,cond_true]
  rw [zjr hs hg hN (by omega) (by omega) (by omega),hL,zhr hs (by omega) (by omega) (by omega) (by omega),hu]
  simp only [if_true];rw [pa (p:=(0:Int)≤(b.toNat:Int) % 128) (by omega),pa (p:=(b.toNat:Int) % 128≤1114111) (by omega),pb (p:=55296≤(b.toNat:Int) % 128) (by omega)]
  simp;rfl
 ·by_cases c1:194≤b.toNat∧b.toNat≤223
  ·have hN:yg b.toNat=1:=by rw [zgz,if_neg c0,if_pos c1]
   have hL:vd b.toNat=128:=by rw [zjz,if_neg c0,if_pos c1]
   cases r with
   | nil=>
    have hu:zr [b]=0:=by simp only [zr,pb c0,pa c1.1,pa c1.2,cond_false,cond_true,Bool.and_self]
    rw [zbs hs hg (.inr ⟨by omega,by omega,by simp at hlen; omega⟩),hu]; rfl
   | cons c r=>
    have hu:zr (b::c::r)=bif z8 c then 2 else 0:=by simp only [zr,pb c0,pa c1.1,pa c1.2,cond_false,cond_true,Bool.and_self]
    have hc:=zgb c;rw [zjr hs hg hN (by omega) (by omega) (by simp at hlen; omega),hL,hu]
    simp only [if_true,show ¬ (1:Int)=0 by omega,if_false]
    rw [zdh (P:=1) (P':=2) hs 1 rfl rfl (by omega) (by omega) ((drop_at hd).trans rfl) (by omega) (by omega)]
    cases hcc:z8 c
    ·rfl
    ·simp only [z8,ph,decide_eq_true_eq] at hcc;rw [cond_true,zhr hs (by omega) (by omega) (by omega) (by omega)]
     rw [pa (p:=(128:Int)≤(b.toNat:Int) % 32 * 64+c.toNat - 128) (by omega),pa (p:=(b.toNat:Int) % 32 * 64+c.toNat - 128≤1114111) (by omega),
      pb (p:=55296≤(b.toNat:Int) % 32 * 64+c.toNat - 128) (by omega),show (j:Int)+1+1=((j+2:Nat):Int) by omega]
     rfl
  ·by_cases c2:224≤b.toNat∧b.toNat≤239
   ·have hN:yg b.toNat=2:=by rw [zgz,if_neg c0,if_neg c1,if_pos c2]
    have hL:vd b.toNat=2048:=by rw [zjz,if_neg c0,if_neg c1,if_pos c2]
    have f1:(decide (194≤b.toNat)&&decide (b.toNat≤223))=false:=by rw [pb (p:=b.toNat≤223) (by omega),Bool.and_false]
    match r,hd,hlen with
    | [],hd,hlen=>
     have hu:zr [b]=0:=by simp only [zr,pb c0,f1,pa c2.1,pa c2.2,cond_false,cond_true,Bool.and_self]
     rw [zbs hs hg (.inr ⟨by omega,by omega,by simp at hlen; omega⟩),hu]; rfl
    | [c],hd,hlen=>
     have hu:zr [b,c]=0:=by simp only [zr,pb c0,f1,pa c2.1,pa c2.2,cond_false,cond_true,Bool.and_self]
     rw [zbs hs hg (.inr ⟨by omega,by omega,by simp at hlen; omega⟩),hu]; rfl
    | c::d::r,hd,hlen=>
     have hu:zr (b::c::d::r)=bif decide ((bif decide (b.toNat=224) then 160 else 128)≤c.toNat)&&decide (c.toNat≤(bif decide (b.toNat=237) then 159 else 191))&&z8 d then 3 else 0:=by
      simp only [zr,pb c0,f1,pa c2.1,pa c2.2,cond_false,cond_true,Bool.and_self]
     have hc:=zgb c;have hdd:=zgb d;rw [zjr hs hg hN (by omega) (by omega) (by simp at hlen; omega),hL,hu]
     simp only [if_true,show ¬ (2:Int)=0 by omega,show ¬ (2:Int)=1 by omega,if_false]
     rw [zdh (P:=1) (P':=2) hs 1 rfl rfl (by omega) (by omega) ((drop_at hd).trans rfl) (by omega) (by omega)]
     cases hcc:z8 c
     ·rw [cond_false,zwh trivial hcc]; rfl
     ·rw [cond_true];have hcc':=hcc;simp only [z8,ph,decide_eq_true_eq] at hcc';rw [zdh (P:=2) (P':=3) hs 2 rfl rfl (by omega) (by omega) ((drop_at hd).trans rfl) (by omega) (by omega)]
      cases hcd:z8 d
      ·rw [Bool.and_false]; rfl
      ·have hcd':=hcd;simp only [z8,ph,decide_eq_true_eq] at hcd';rw [cond_true,zhr hs (by omega) (by omega) (by omega) (by omega),yay c2 hcc' hcd',Bool.and_true,show (j:Int)+2+1=((j+3:Nat):Int) by omega]
       cases (decide ((bif decide (b.toNat=224) then 160 else 128)≤c.toNat)&&decide (c.toNat≤(bif decide (b.toNat=237) then 159 else 191))) <;> rfl
   ·by_cases c3:240≤b.toNat∧b.toNat≤244
    ·have hN:yg b.toNat=3:=by rw [zgz,if_neg c0,if_neg c1,if_neg c2,if_pos c3]
     have hL:vd b.toNat=65536:=by rw [zjz,if_neg c0,if_neg c1,if_neg c2,if_pos c3]
     have f1:(decide (194≤b.toNat)&&decide (b.toNat≤223))=false:=by rw [pb (p:=b.toNat≤223) (by omega),Bool.and_false]
     have f2:(decide (224≤b.toNat)&&decide (b.toNat≤239))=false:=by rw [pb (p:=b.toNat≤239) (by omega),Bool.and_false]
     match r,hd,hlen with
     | [],hd,hlen=>
      have hu:zr [b]=0:=by simp only [zr,pb c0,f1,f2,pa c3.1,pa c3.2,cond_false,cond_true,Bool.and_self]
      rw [zbs hs hg (.inr ⟨by omega,by omega,by simp at hlen; omega⟩),hu]; rfl
     | [c],hd,hlen=>
      have hu:zr [b,c]=0:=by simp only [zr,pb c0,f1,f2,pa c3.1,pa c3.2,cond_false,cond_true,Bool.and_self]
      rw [zbs hs hg (.inr ⟨by omega,by omega,by simp at hlen; omega⟩),hu]; rfl
     | [c,d],hd,hlen=>
      have hu:zr [b,c,d]=0:=by simp only [zr,pb c0,f1,f2,pa c3.1,pa c3.2,cond_false,cond_true,Bool.and_self]
      rw [zbs hs hg (.inr ⟨by omega,by omega,by simp at hlen; omega⟩),hu]; rfl
     | c::d::e::r,hd,hlen=>
      have hu:zr (b::c::d::e::r)=bif decide ((bif decide (b.toNat=240) then 144 else 128)≤c.toNat)&&decide (c.toNat≤(bif decide (b.toNat=244) then 143 else 191))&&z8 d&&z8 e then 4 else 0:=by
       simp only [zr,pb c0,f1,f2,pa c3.1,pa c3.2,cond_false,cond_true,Bool.and_self]
      have hc:=zgb c;have hdd:=zgb d;have hee:=zgb e;rw [zjr hs hg hN (by omega) (by omega) (by simp at hlen; omega),hL,hu]
      simp only [if_true,show ¬ (3:Int)=0 by omega,show ¬ (3:Int)=1 by omega,show ¬ (3:Int)=2 by omega,if_false]
      rw [zdh (P:=1) (P':=2) hs 1 rfl rfl (by omega) (by omega) ((drop_at hd).trans rfl) (by omega) (by omega)]
      cases hcc:z8 c
      ·rw [cond_false,zum trivial hcc]; rfl
      ·rw [cond_true];have hcc':=hcc;simp only [z8,ph,decide_eq_true_eq] at hcc';rw [zdh (P:=2) (P':=3) hs 2 rfl rfl (by omega) (by omega) ((drop_at hd).trans rfl) (by omega) (by omega)]
       cases hcd:z8 d
       ·rw [Bool.and_false]; rfl
       ·have hcd':=hcd;simp only [z8,ph,decide_eq_true_eq] at hcd';rw [cond_true,zdh (P:=3) (P':=4) hs 3 rfl rfl (by omega) (by omega) ((drop_at hd).trans rfl) (by omega) (by omega)]
        cases hce:z8 e
        ·rw [Bool.and_false]; rfl
        ·have hce':=hce;simp only [z8,ph,decide_eq_true_eq] at hce';rw [cond_true,zhr hs (by omega) (by omega) (by omega) (by omega),yax c3 hcc' hcd' hce',Bool.and_true,Bool.and_true,show (j:Int)+3+1=((j+4:Nat):Int) by omega]
         cases (decide ((bif decide (b.toNat=240) then 144 else 128)≤c.toNat)&&decide (c.toNat≤(bif decide (b.toNat=244) then 143 else 191))) <;> rfl
    ·have hN:yg b.toNat = -1:=by rw [zgz,if_neg c0,if_neg c1,if_neg c2,if_neg c3]
     have hu:zr (b::r)=0:=by
      have f1:(decide (194≤b.toNat)&&decide (b.toNat≤223))=false:=by simp; omega
      have f2:(decide (224≤b.toNat)&&decide (b.toNat≤239))=false:=by simp; omega
      have f3:(decide (240≤b.toNat)&&decide (b.toNat≤244))=false:=by simp; omega
      simp only [zr,pb c0,f1,f2,f3,cond_false]
     rw [zbs hs hg (.inl (by omega)),hu]; rfl
theorem z39{s:List UInt8}(hs:s.length≤4611686018427387904){n:Nat}(hn:5≤n):∀ (f j k:Nat),s.length - j≤f→f<k→j≤s.length →
  LP cx S15 n 197 0 2 k (frO s (j:Int)) [] (AK cx S15 n 197 0 2 (EK cx 197 0))=some (.ret (.d (.int .i64 (match wk f (s.drop j) j with | some p=>(p:Int) | none=>-1))),[]):=by
 intro f
 induction f with
 | zero=>
  intro j k h hk hj;obtain ⟨k,rfl⟩:∃ i,k=i+1:=⟨k - 1,by omega⟩
  have hnil:s.drop j=[]:=List.drop_eq_nil_of_le (by omega)
  rw [l15,hnil,pb (p:=(j:Int)<(s.length:Int)) (by omega)]; rfl
 | succ f ih=>
  intro j k h hk hj;obtain ⟨k,rfl⟩:∃ i,k=i+1:=⟨k - 1,by omega⟩
  cases hd:s.drop j with
  | nil=>
   have:=List.drop_eq_nil_iff.1 hd;rw [l15,pb (p:=(j:Int)<(s.length:Int)) (by omega)]; rfl
  | cons b r=>
   obtain ⟨h1,hg,_⟩:=drop_cons hd;rw [z09 hs hn hd];have hle:=zvj (b::r);have hlen:(b::r).length=s.length - j:=by rw [←hd]; simp
   by_cases hu:zr (b::r)=0
   ·simp only [wk,hu]; rfl
   ·have hbq:Nat.beq (zr (b::r)) 0=false:=zi5 hu;have step:=ih (j+zr (b::r)) k (by omega) (by omega) (by omega)
    rw [←List.drop_drop,hd] at step;simp only [wk,hbq,cond_false];exact step
theorem z9v(s:List UInt8)(hs:s.length≤4611686018427387904):zh cx 197 [.d (.str s)] []=some (.ret (.d (.int .i64 (match wk s.length s 0 with | some p=>(p:Int) | none=>-1))),[]):=by
 refine xl (N:=s.length+5) z0l ?_;rw [b15];exact z39 hs (by omega) s.length 0 (s.length+5) (by omega) (by omega) (by omega)
end Go.Vai
end
