import GoSem.Dispatch
import Derived.Calls
import Derived.Laws.World
namespace Go.Qz
inductive D where
 |int (k:IntKind) (n:Int)
 |bool (b:Bool)
 |str (s:ByteArray)
 |sl (z:Nat) (xs:List D)
 |agg (cs:List D)
 |nilp
 |nilf
 |nili
 |iface (t:TypeId) (d:D)
 |hole
 |snil
 |sne
 |bs (u:TypeId) (s:ByteArray)
 |clo (f:FuncId) (ds:List D)
 |seq (f:FuncId) (s p:ByteArray)
 deriving Inhabited
def D.cells:D->List D
 | .agg cs=>cs
 |d=>[d]
def D.isAgg:D->Bool
 | .agg _=>true
 |_=>false
def D.withCells:D->List D->D
 | .agg _,cs=>.agg cs
 |d,cs=>match cs with
  | [c]=>c
  |_=>d
mutual
def D.flat:D->Bool
 | .sl _ _=>false
 | .hole=>false
 | .bs _ _=>false
 | .clo _ ds=>flats ds
 | .seq _ _ _=>false
 | .agg cs=>flats cs
 | .iface _ d=>d.flat
 |_=>true
def flats:List D->Bool
 | []=>true
 |d::r=>d.flat&&flats r
end
def D.cellAt(z i o:Nat):D->Option D
 | .sl z' xs=>if z=z' then match xs[i]? with
   |some x=>x.cells[o]?
   |none=>none
   else none
 |_=>none
def D.setAt(d:D)(z i o:Nat)(c:D):D:=match d with
 | .sl z' xs=>match xs[i]? with
   |some x=>if z=z' then .sl z' (xs.set i (x.withCells (x.cells.set o c)))else .sl z' xs
   |none=>.sl z' xs
 |d=>d
abbrev Path:=List (Nat×Nat×Nat)
def D.sub:D->Path->Option D
 |d,[]=>some d
 |d,(z,i,o)::p=>match d.cellAt z i o with
  |some c=>c.sub p
  |none=>none
def D.repl:D->Path->D->D
 |_,[],c=>c
 |d,(z,i,o)::p,c=>match d.cellAt z i o with
  |some c' =>d.setAt z i o (c'.repl p c)
  |none=>d
inductive Root where
 |tmp (t:Nat)
 |cell (b o:Nat)
 deriving DecidableEq,Inhabited
structure Loc where
 root:Root
 path:Path:=[]
 deriving DecidableEq,Inhabited
inductive Cap where
 |ptr (b:Nat)
 |ro (d:D)
 deriving Inhabited
inductive A where
 |ro (d:D)
 |own (d:D)
 |view (l:Loc)
 |ptr (b o:Nat)
 |eptr (l:Loc) (z i o:Nat)
 |pview (l:Loc) (i k:Nat)
 |rptr (ds:List D)
 |fn (f:FuncId) (caps:List Cap)
 |selfp
 |bnil (t:TypeId)
 |undef
 |dead
 deriving Inhabited
inductive V where
 |one (a:A)
 |tup (as:List A)
 |agg (as:List A)
 deriving Inhabited
abbrev zas:=List (Nat×List A)
structure Env where
 size:Nat
 tmps:Nat->V
 boxes:Nat->Option (List A)
def V.dead:V:=.one .dead
def V.undef:V:=.one .undef
def A.isSelf:A->Bool
 | .selfp| .bnil _=>true
 |_=>false
def A.isOwn:A->Bool
 | .own _=>true
 |_=>false
def V.mapA(f:A->A):V->V
 | .one a=>.one (f a)
 | .tup as=>.tup (as.map f)
 | .agg as=>.agg (as.map f)
def za5(b:Nat):zas->Option (List A)
 | []=>none
 |(b',cs)::r=>if b=b' then some cs else za5 b r
def Env.get(e:Env)(t:Nat):V:=e.tmps t
def Env.box(e:Env)(b:Nat):Option (List A):=e.boxes b
def Env.set0(e:Env)(t:Nat)(v:V):Env:={e with tmps:=λt' =>if t' =t then v else e.tmps t'}
def Env.setBox(e:Env)(b:Nat)(cs:List A):Env:={e with boxes:=λb' =>if b' =b then some cs else e.boxes b'}
def Env.mapA(e:Env)(f:A->A):Env:={e with tmps:=λt=>(e.tmps t).mapA f}
def Env.root(e:Env):Root->A
 | .tmp t=>match e.get t with
   | .one a=>a
   |_=>.dead
 | .cell b o=>match e.box b with
   |some cs=>cs.getD o .dead
   |none=>.dead
def Env.ownAt(e:Env)(l:Loc):Option D:=match e.root l.root with
 | .own d=>d.sub l.path
 |_=>none
def Env.setRoot(e:Env)(r:Root)(a:A):Env:=match r with
 | .tmp t=>e.set0 t (.one a)
 | .cell b o=>match e.box b with
   |some cs=>e.setBox b (cs.set o a)
   |none=>e
def A.drop(r:Root):A->A
 | .view l=>if l.root=r then .dead else .view l
 | .eptr l z i o=>if l.root=r then .dead else .eptr l z i o
 | .pview l i k=>if l.root=r then .dead else .pview l i k
 |a=>a
def A.turn(r:Root):A->A
 | .view l=>if l.root=r&& !l.path.isEmpty then .dead else .view l
 | .eptr l z i o=>if l.root=r&& !l.path.isEmpty then .dead else .eptr l z i o
 | .pview l i k=>if l.root=r&& !l.path.isEmpty then .dead else .pview l i k
 |a=>a
def Env.setLoc(e:Env)(l:Loc)(d:D):Env:=match e.root l.root with
 | .own r=>(e.mapA (A.turn l.root)).setRoot l.root (.own (r.repl l.path d))
 |_=>e
def Env.vacate(e:Env)(l:Loc):Env:=match l.path with
 | []=>e.setRoot l.root .dead
 |_=>e.setLoc l .hole
def Env.set(e:Env)(t:Nat):V->Env
 | .one (.own d)=>(e.mapA (A.drop (.tmp t))).set0 t (.one (.own d))
 |v=>e.set0 t v
def A.thaw(e:Env)(r:Root):A->A
 | .view l=>if l.root=r then match e.ownAt l with
   |some d=>.ro d
   |none=>.dead
   else .view l
 | .eptr l z i o=>if l.root=r then .dead else .eptr l z i o
 | .pview l i k=>if l.root=r then .dead else .pview l i k
 |a=>a
def Env.freeze(e:Env)(r:Root):Env:=match e.root r with
 | .own d=>(e.mapA (A.thaw e r)).setRoot r (.ro d)
 |_=>e
def A.data(e:Env):A->Option D
 | .ro d| .own d=>some d
 | .view l=>e.ownAt l
 |_=>none
def datas(e:Env):List A->Option (List D)
 | []=>some []
 |a::r=>match a.data e with
  |some d=>match datas e r with
   |some ds=>some (d::ds)
   |none=>none
  |none=>none
def V.data(e:Env):V->Option D
 | .one a=>a.data e
 | .agg as=>match datas e as with
   |some ds=>some (.agg ds)
   |none=>none
 | .tup _=>none
def Cap.refsBox(b:Nat):Cap->Bool
 | .ptr b' =>b' =b
 | .ro _=>false
def Root.inBox(b:Nat):Root->Bool
 | .cell b' _=>b' =b
 |_=>false
def A.killBox(b:Nat):A->A
 | .view l=>if l.root.inBox b then .dead else .view l
 | .eptr l z i o=>if l.root.inBox b then .dead else .eptr l z i o
 | .pview l i k=>if l.root.inBox b then .dead else .pview l i k
 | .ptr b' o=>if b' =b then .dead else .ptr b' o
 | .fn f caps=>if caps.any (Cap.refsBox b)then .dead else .fn f caps
 |a=>a
def Env.newBox(e:Env)(b:Nat)(cs:List A):Env:=(e.mapA (A.killBox b)).setBox b cs
def zab:Nat:=10000
def zaq:Nat:=5000
def zc5:Value->Option D
 | .int k n=>some (.int k n)
 | .bool b=>some (.bool b)
 | .string s=>some (.str s)
 | .pointer none=>some .nilp
 | .nilFunc=>some .nilf
 | .nilIface=>some .nili
 |_=>none
end Go.Qz
namespace Go.Qz
def zbj(P:Program)(t:TypeId):Option Nat:=match P.info? t with
 |some i=>match P.underlying t with
  |some _=>some i.size
  |none=>none
 |none=>none
def zij(P:Program)(e:TypeId):Option Nat:=match P.info? e with
 |some i=>match P.underlying e with
  |some _=>match i.zero with
   |some z=>if 0<i.size&&i.bytes<=128&&z.cells.size=i.size then some i.size else none
   |none=>none
  |none=>none
 |none=>none
def zOf(P:Program)(t:TypeId):Option Nat:=match P.underlying t with
 |some (.slice e)=>zij P e
 |_=>none
def _root_.Option.then_{α β:Type}(x:Option α)(f:α->Option β):Option β:=match x with
 |some a=>f a
 |none=>none
def zf4(P:Program)(ty:TypeId)(v:Value):Option A:=
 match v with
 | .slice none 0 0=>match zOf P ty with
   |some z=>some (.own (.sl z []))
   |none=>none
 |v=>match zc5 v with
  |some d=>some (.ro d)
  |none=>none
def rd(P:Program)(e:Env)(ty:TypeId):Operand->Option D
 | .tmp t=>(e.get t).data e
 | .const v=>match zf4 P ty v with
   |some a=>a.data e
   |none=>none
 |_=>none
def A.portable:A->Bool
 | .ro _| .own _| .selfp| .bnil _| .undef| .dead=>true
 | .fn _ []=>true
 |_=>false
def zez(e:Env):A->Option (A×Env)
 | .view l=>match e.ownAt l with
   |some d=>some (.own d,e.vacate l)
   |none=>none
 | .pview l i k=>match e.ownAt l with
   |some (.sl z xs)=>if i=0/\k<=xs.length then some (.own (.sl z (xs.take k)),e.vacate l)else none
   |_=>none
 | .dead=>none
 |a=>some (a,e)
def A.atRoot:A->Bool
 | .view l=>l.path.isEmpty
 | .pview l _ _=>l.path.isEmpty
 |_=>true
def zga(e:Env):List A->Option (List A×Env)
 | []=>some ([],e)
 |a::r=>match zez e a with
  |some (a',e')=>if a.atRoot&&a'.portable then match zga e' r with
   |some (r',e'')=>some (a' ::r',e'')
   |none=>none
   else none
  |none=>none
def take(P:Program)(e:Env)(ty:TypeId):Operand->Option (V×Env)
 | .tmp t=>match e.get t with
   | .one (.own d)=>some (.one (.own d),e.vacate ⟨.tmp t,[]⟩)
   | .one a=>match zez e a with
     |some (a',e')=>some (.one a',e')
     |none=>none
   | .tup as=>match zga (e.set0 t .dead) as with
     |some (as',e')=>some (.tup as',e')
     |none=>none
   | .agg as=>match zga (e.set0 t .dead) as with
     |some (as',e')=>some (.agg as',e')
     |none=>none
 | .const v=>match zf4 P ty v with
   |some a=>some (.one a,e)
   |none=>none
 | .func f=>some (.one (.fn f []),e)
 | .global _=>none
def A.inner:A->Option D
 | .own d=>some d
 | .ro d=>if d.flat then some d else none
 | .fn f []=>some (.clo f [])
 |_=>none
def zf5:List A->Option (List D)
 | []=>some []
 |a::r=>match a.inner with
  |some d=>match zf5 r with
   |some ds=>some (d::ds)
   |none=>none
  |none=>none
def V.inner:V->Option D
 | .one a=>a.inner
 | .agg as=>match zf5 as with
   |some ds=>some (.agg ds)
   |none=>none
 | .tup _=>none
def A.inCell:A->Bool
 | .own (.agg _)| .ro (.agg _)=>false
 | .own _| .ro _=>true
 | .fn _ []=>true
 |_=>false
def V.cellsA:V->Option (List A)
 | .one (.ro (.agg ds))=>some (ds.map .ro)
 | .one (.own (.agg ds))=>some (ds.map λd=>if d.flat then .ro d else .own d)
 | .one a=>if a.inCell then some [a]else none
 | .agg as=>some as
 | .tup _=>none
def Operand.isConst:Operand->Bool
 | .const _=>true
 |_=>false
def zg1(P:Program)(as bs:List D):List Field->Option Bool
 | []=>some true
 |f::r=>if f.name= "_" then none else match P.underlying f.type,as[f.offset]?,bs[f.offset]? with
  |some .string,some (.str a),some (.str b)=>match zg1 P as bs r with
   |some q=>some (a.toList==b.toList&&q)
   |none=>none
  |some (.int _),some (.int k a),some (.int k' b)=>if k=k' then match zg1 P as bs r with
   |some q=>some (a==b&&q)
   |none=>none
   else none
  |_,_,_=>none
def evEq(P:Program)(t:TypeId)(x y:Operand)(a b:D):Option Bool:=
 match P.underlying t,a,b with
 |some .bool,.bool a,.bool b=>some (a==b)
 |some (.pointer _),.nilp,.nilp=>some true
 |some (.interface _),.nili,.nili=>if Operand.isConst x||Operand.isConst y then some true else none
 |some (.interface _),.nili,.iface _ _=>some false
 |some (.interface _),.iface _ _,.nili=>some false
 |some (.struct fs),.agg as,.agg bs=>if !P.stoodInHeld t&& !P.eqGuardType P.depth t then zg1 P as bs fs.toList else none
 |_,_,_=>none
def zv2(op:BinOp)(k:IntKind)(a b:Int):Option D:=
 match op with
 | .add=>some (.int k (k.wrap (a+b)))
 | .sub=>some (.int k (k.wrap (a-b)))
 | .mul=>some (.int k (k.wrap (a*b)))
 | .quo=>if b=0 then none else some (.int k (k.wrap (a.tdiv b)))
 | .rem=>if b=0 then none else some (.int k (a.tmod b))
 | .and=>some (.int k (k.wrap (BitVec.ofInt k.bits a&&&BitVec.ofInt k.bits b).toNat))
 | .or=>some (.int k (k.wrap (BitVec.ofInt k.bits a|||BitVec.ofInt k.bits b).toNat))
 | .xor=>some (.int k (k.wrap (BitVec.ofInt k.bits a^^^BitVec.ofInt k.bits b).toNat))
 | .andNot=>some (.int k (k.wrap (BitVec.ofInt k.bits a&&& ~~~(BitVec.ofInt k.bits b)).toNat))
 | .eql=>some (.bool (a==b))
 | .neq=>some (.bool (a !=b))
 | .lss=>some (.bool (decide (a<b)))
 | .leq=>some (.bool (decide (a<=b)))
 | .gtr=>some (.bool (decide (a>b)))
 | .geq=>some (.bool (decide (a≥b)))
 |_=>none
def zag:Nat:=9223372036854775807
def z2n(op:BinOp)(a b:ByteArray):Option D:=
 match op with
 | .add=>if a.size+b.size<=zag then some (.str (a++b))else none
 | .eql=>some (.bool (a.toList==b.toList))
 | .neq=>some (.bool (!(a.toList==b.toList)))
 | .lss=>some (.bool (Op.bytesLess a.toList b.toList))
 | .leq=>some (.bool (Op.bytesLess a.toList b.toList||a.toList==b.toList))
 | .gtr=>some (.bool (!(Op.bytesLess a.toList b.toList||a.toList==b.toList)))
 | .geq=>some (.bool (!(Op.bytesLess a.toList b.toList)))
 |_=>none
def z2o(P:Program)(op:BinOp)(t:TypeId)(x y:Operand):D->D->Option D
 | .int k a,.int k' b=>
   match op with
   | .shl=>if b<0 then none else some (.int k (k.wrap (a*2^(min b.toNat k.bits))))
   | .shr=>if b<0 then none else some (.int k (a.fdiv (2^(min b.toNat k.bits))))
   |_=>if k=k' then zv2 op k a b else none
 | .str a,.str b=>z2n op a b
 |a,b=>match op with
  | .eql=>match evEq P t x y a b with
    |some r=>some (.bool r)
    |none=>none
  | .neq=>match evEq P t x y a b with
    |some r=>some (.bool (!r))
    |none=>none
  |_=>none
def evUn(op:UnOp):D->Option D
 | .bool b=>match op with
   | .not=>some (.bool !b)
   |_=>none
 | .int k n=>match op with
   | .neg=>some (.int k (k.wrap (0-n)))
   | .xor=>zv2 .xor k (if k.signed then-1 else k.max) n
   |_=>none
 |_=>none
def zj5:List D->Option (List UInt8)
 | []=>some []
 | .int .u8 n::r=>match zj5 r with
   |some bs=>some (n.toNat.toUInt8::bs)
   |none=>none
 |_=>none
def za2(s:ByteArray):List D:=s.data.toList.map λb=>.int .u8 b.toNat
def zut(P:Program)(src dst:TypeId)(d:D):Option D:=
 match P.underlying src,P.underlying dst,d with
 |some (.int _),some (.int k),.int _ n=>some (.int k (k.wrap n))
 |some .string,some .string,.str s=>some (.str s)
 |some (.slice e),some .string,.sl 1 xs=>match P.underlying e with
  |some (.int .u8)=>match zj5 xs with
   |some bs=>some (.str ⟨bs.toArray⟩)
   |none=>none
  |_=>none
 |_,_,_=>none
def zik(P:Program)(src dst:TypeId):Bool:=match P.underlying src,P.underlying dst with
 |some .string,some (.slice e)=>match P.underlying e with
  |some (.int .u8)=>true
  |_=>false
 |_,_=>false
def zyn(P:Program):Nat->TypeId->List Nat
 |0,_=>[]
 |n+1,t=>match P.underlying t with
  |some (.struct fs)=>fs.toList.flatMap λf=>zyn P n f.type
  |some (.array m e)=>(List.range m).flatMap λ_=>zyn P n e
  |some (.slice e)=>[(zbj P e).getD 0]
  |_=>[0]
def zuu:Value->Nat->Option A
 | .slice none 0 0,z=>some (.own (.sl z []))
 |v,_=>match zc5 v with
  |some d=>some (.ro d)
  |none=>none
def ze3:List Value->List Nat->Option (List A)
 | [],_=>some []
 |v::vs,zs=>match zuu v (zs.headD 0)with
  |some a=>match ze3 vs zs.tail with
   |some as=>some (a::as)
   |none=>none
  |none=>none
def zhm(P:Program)(t:TypeId):Option (List A):=match P.info? t with
 |some i=>match i.zero with
  |some v=>ze3 v.cells.toList (zyn P 6 t)
  |none=>none
 |none=>none
def zyo(P:Program)(t:TypeId):Option TypeId:=match P.underlying t with
 |some (.slice el)=>match P.info? el with
  |some i=>match i.zero with
   |some (.int .u8 0)=>if i.size==1&&i.bytes==1 then some el else none
   |_=>none
  |none=>none
 |_=>none
def zuv(P:Program)(t:TypeId):Option TypeId:=match P.underlying t with
 |some (.struct fs)=>if fs.size=2 then match fs[1]? with
  |some f=>zyo P f.type
  |none=>none
  else none
 |_=>none
def A.isNilp:A->Bool
 | .ro .nilp=>true
 |_=>false
def zuw:List A->Bool
 | [.own (.sl z [])]=>z==1
 |_=>false
def zne(u:Option TypeId)(r:List A):List A:=match u with
 |some el=>if zuw r then [.own (.bs el .empty)]else r
 |none=>r
def zux(t:TypeId)(u:Option TypeId):List A->List A
 | []=>[]
 |a::r=>if a.isNilp then .bnil t::zne u r else a::r
def fieldAt(P:Program)(s:TypeId)(f:Nat):Option (Nat×TypeId):=match P.underlying s with
 |some (.struct fs)=>match fs[f]? with
  |some x=>some (x.offset,x.type)
  |none=>none
 |_=>none
def zbi(P:Program)(t:TypeId):Bool:=match P.underlying t with
 |some (.struct _)|some (.array _ _)=>true
 |_=>false
def look(l:Loc):A->A
 | .own _=>.view l
 | .selfp=>match l.root with
   | .cell b _=>.ptr b 0
   | .tmp _=>.dead
 | .bnil _=>.ro .nilp
 |a=>a
def zon(b:Nat):Nat->List A->List A
 |_,[]=>[]
 |o,a::r=>look ⟨.cell b o,[]⟩ a::zon b (o+1) r
def zv3(l:Loc)(z i o:Nat)(d:D):Option A:=
 if d.flat then some (.ro d)else match d with
  | .sl _ _=>some (.view ⟨l.root,l.path++[(z,i,o)]⟩)
  |_=>none
def znf(l:Loc)(z i:Nat):Nat->List D->Option (List A)
 |_,[]=>some []
 |o,d::r=>match zv3 l z i o d with
  |some a=>match znf l z i (o+1) r with
   |some as=>some (a::as)
   |none=>none
  |none=>none
def zoo:List A->Option (List D)
 | []=>some []
 | .ro d::r=>match zoo r with
   |some ds=>some (d::ds)
   |none=>none
 |_::_=>none
def zpr(as:List A):V:=match zoo as with
 |some ds=>.one (.ro (.agg ds))
 |none=>.agg as
def zf6(e:Env)(agg:Bool)(n:Nat):A->Option V
 | .ptr b o=>if b<zab then match e.box b with
   |some cs=>if agg then(if o+n<=cs.length then some (zpr (zon b o ((cs.drop o).take n)))else none)
    else match cs[o]? with
     |some a=>some (.one (look ⟨.cell b o,[]⟩ a))
     |none=>none
   |none=>none
   else none
 | .rptr ds=>if agg then(if n<=ds.length then some (.one (.ro (.agg (ds.take n))))else none)
   else match ds with
    |d::_=>some (.one (.ro d))
    | []=>none
 | .eptr l z i o=>match e.ownAt l with
   |some (.sl z' xs)=>if z=z' then match xs[i]? with
    |some x=>if agg then(if o+n<=x.cells.length then match znf l z i o ((x.cells.drop o).take n)with
     |some as=>some (zpr as)
     |none=>none
     else none)
     else match x.cells[o]? with
      |some d=>match zv3 l z i o d with
       |some a=>some (.one a)
       |none=>none
      |none=>none
    |none=>none
    else none
   |_=>none
 |_=>none
def zf7(e:Env)(b:Nat):Nat->List A->Env
 |_,[]=>e
 |o,a::r=>
  let e1:=match a with
   | .own _=>e.mapA (A.drop (.cell b o))
   |_=>e
  zf7 (e1.setRoot (.cell b o) a) b (o+1) r
def zk2(e:Env)(l:Loc)(z i:Nat):Nat->List D->Env
 |_,[]=>e
 |o,d::r=>zk2 (e.setLoc ⟨l.root,l.path++[(z,i,o)]⟩ d) l z i (o+1) r
def zk3(e:Env)(n:Nat)(v:V):A->Option Env
 | .ptr b o=>if b<zab then match e.box b with
   |some cs=>match v.cellsA with
    |some as=>if as.length=n&&o+n<=cs.length&&as.all A.portable then some (zf7 e b o as)else none
    |none=>none
   |none=>none
   else none
 | .eptr l z i o=>match e.ownAt l with
   |some (.sl z' xs)=>match v.inner with
    |some d=>if z=z' then match xs[i]? with
     |some x=>if d.cells.length=n&&o+n<=x.cells.length then some (zk2 e l z i o d.cells)else none
     |none=>none
     else none
    |none=>none
   |_=>none
 |_=>none
def zsm(e:Env)(t:Nat):Option Loc:=match e.get t with
 | .one (.own _)=>some ⟨.tmp t,[]⟩
 | .one (.view l)=>some l
 |_=>none
abbrev zai:=FuncId->List A->zas->Option (V×zas)
inductive Lent where
 |box (n b:Nat)
 |row (n:Nat) (l:Loc)
 |read (r:Root)
def zk4:List A->List Lent
 | []=>[]
 | .view l::r=>.read l.root::zk4 r
 |_::r=>zk4 r
def zjf:Nat:=9999
def z5c(n:Nat):Nat:=zaq+n
def z5d(n k:Nat):Nat:=zaq+50*(n+1)+k
def zcp(e:Env)(n:Nat):List Cap->Nat->Option (List Cap×List Lent)
 | [],_=>some ([],[])
 | .ro d::r,k=>match zcp e n r (k+1)with
   |some (cs,m)=>some (.ro d::cs,m)
   |none=>none
 | .ptr b::r,k=>match zcp e n r (k+1)with
   |some (cs,m)=>some (.ptr (z5d n k)::cs,.box (z5d n k) b::m)
   |none=>none
def lend1(e:Env)(n:Nat)(w:Bool)(x:Option Nat):V->Option (A×List Lent)
 | .one (.ptr b o)=>if o=0 then some (.ptr (z5c n) 0,[.box (z5c n) b])else none
 | .one (.fn f caps)=>match zcp e n caps 0 with
   |some (cs,m)=>some (.fn f cs,m)
   |none=>none
 | .one (.rptr ds)=>some (.rptr ds,[])
 | .one (.own d)=>match x with
   |some t=>if w then some (.view ⟨.cell (zab+n) 0,[]⟩,[.row (zab+n) ⟨.tmp t,[]⟩])else some (.ro d,[.read (.tmp t)])
   |none=>match d with
    | .sl z []=>if w then none else some (.ro (.sl z []),[])
    |_=>none
 | .one (.view l)=>match e.ownAt l with
   |some d=>if w then(if d.isAgg&& !l.path.isEmpty then none else some (.view ⟨.cell (zab+n) 0,[]⟩,[.row (zab+n) l]))else some (.ro d,[.read l.root])
   |none=>none
 | .one (.pview l i k)=>match e.ownAt l with
   |some (.sl z xs)=>if w=false/\i<=k/\k<=xs.length then some (.ro (.sl z ((xs.take k).drop i)),[.read l.root])else none
   |_=>none
 | .one (.ro d)=>some (.ro d,[])
 | .agg as=>if w||as.any A.isOwn then none else match datas e as with
   |some ds=>some (.ro (.agg ds),zk4 as)
   |none=>none
 |_=>none
def lend(e:Env)(io:List Nat):Nat->List (V×Option Nat)->Option (List A×List Lent)
 |_,[]=>some ([],[])
 |n,(v,x)::r=>match lend1 e n (io.contains n) x v with
  |some (a,m)=>match lend e io (n+1) r with
   |some (as,m')=>some (a::as,m++m')
   |none=>none
  |none=>none
def zar(e:Env):List Lent->Option zas
 | []=>some []
 | .box n b::r=>match e.box b with
   |some cs=>if cs.all A.portable then match zar e r with
    |some m=>some ((n,cs)::m)
    |none=>none
    else none
   |none=>none
 | .read _::r=>zar e r
 | .row n l::r=>match e.ownAt l with
   |some d=>match zar e r with
    |some m=>some ((n,[.own d])::m)
    |none=>none
   |none=>none
def Lent.apart:Lent->Lent->Bool
 | .box n b,.box n' b' =>b !=b' &&n !=n'
 | .row n l,.row n' l' =>l.root !=l'.root&&n !=n'
 | .box n b,.row n' l=> !l.root.inBox b&&n !=n'
 | .row n l,.box n' b=> !l.root.inBox b&&n !=n'
 | .read r,.box _ b=> !r.inBox b
 | .box _ b,.read r=> !r.inBox b
 | .read r,.row _ l=>r !=l.root
 | .row _ l,.read r=>r !=l.root
 | .read _,.read _=>true
def Lent.okId:Lent->Bool
 | .box n b=>decide (zaq<=n)&&decide (n<zjf)&&decide (b<zab)
 | .row n _=>decide (zab<=n)
 | .read _=>true
def zax:List Lent->Bool
 | []=>true
 |a::r=>a.okId&&r.all (Lent.apart a)&&zax r
def Lent.isRead:Lent->Bool
 | .read _=>true
 |_=>false
def zdq(e:Env):List Lent->Bool
 | []=>true
 | .row _ l::r=>(match e.ownAt l with|some d=> !d.isAgg||l.path.isEmpty|none=>false)&&zdq e r
 |_::r=>zdq e r
def zk5:D->D
 | .agg ds=>.agg (ds.map λ_=>.hole)
 |_=>.hole
def zng:Option D->D
 |some d=>zk5 d
 |none=>.hole
def A.killIn(b:Nat):A->A
 | .view l=>if l.root.inBox b then .dead else .view l
 | .eptr l z i o=>if l.root.inBox b then .dead else .eptr l z i o
 | .pview l i k=>if l.root.inBox b then .dead else .pview l i k
 |a=>a
def zbl(e:Env):List Lent->Env
 | []=>e
 | .box _ b::r=>match e.box b with
   |some cs=>zbl ((e.mapA (A.killIn b)).setBox b (cs.map λ_=>.dead)) r
   |none=>zbl e r
 | .row _ l::r=>zbl (e.setLoc l (zng (e.ownAt l))) r
 | .read _::r=>zbl e r
def zbd(e:Env):List Lent->zas->Option Env
 | [],_=>some e
 | .box n b::r,m=>match za5 n m with
   |some cs=>match e.box b with
    |some cs0=>if cs.length=cs0.length then zbd ((e.mapA (A.killIn b)).setBox b cs) r m else none
    |none=>none
   |none=>none
 | .row n l::r,m=>match za5 n m with
   |some [.own d]=>match d with
    | .agg _=>none
    |d=>match l.path with
     | []=>zbd ((e.mapA (A.drop l.root)).setRoot l.root (.own d)) r m
     |_=>zbd (e.setLoc l d) r m
   |some [.dead]=>zbd e r m
   |_=>none
 | .read _::r,m=>zbd e r m
def zdf(e:Env)(m:List Lent)(bx:zas):Option Env:=zbd (zbl e m) m bx
def A.flat:A->Bool
 | .ro d=>d.flat
 | .fn _ (_::_)=>false
 | .own _| .fn _ []| .selfp| .undef| .dead=>true
 |_=>false
def zd8:zas->Bool
 | []=>true
 |(_,cs)::r=>cs.all A.flat&&zd8 r
def V.flatRet:V->Bool
 | .one a=>a.flat
 | .tup as=>as.all A.flat
 | .agg as=>as.all A.flat
def A.leaves:A->Bool
 | .ro _| .own _=>true
 | .fn _ []=>true
 |_=>false
def V.leavesV:V->Bool
 | .one a=>a.leaves
 | .tup as=>as.all A.leaves
 | .agg _=>false
def za4(P:Program)(e:Env)(ty:TypeId):Operand->Option V
 | .tmp t=>some (e.get t)
 | .const v=>match zf4 P ty v with
   |some a=>some (.one a)
   |none=>none
 | .func f=>some (.one (.fn f []))
 | .global _=>none
def za0(P:Program)(e:Env):List (Operand×TypeId)->Option (List V)
 | []=>some []
 |(x,ty)::r=>match za4 P e ty x with
  |some v=>match za0 P e r with
   |some vs=>some (v::vs)
   |none=>none
  |none=>none
def zcd(e:Env):Operand->Env
 | .tmp t=>match zsm e t with
   |some l=>e.freeze l.root
   |none=>e
 |_=>e
def zhz:Option V->Option V
 |some (.one (.ro (.clo f ds)))=>some (.one (.fn f (ds.map .ro)))
 |x=>x
theorem zjg(f:FuncId)(caps:List Cap):zhz (some (.one (.fn f caps)))=some (.one (.fn f caps)):=(rfl)
theorem zsn(f:FuncId)(ds:List D):zhz (some (.one (.ro (.clo f ds))))=some (.one (.fn f (ds.map .ro))):=(rfl)
def zv4:List Cap->Option (List D)
 | []=>some []
 | .ro d::r=>match zv4 r with
   |some ds=>some (d::ds)
   |none=>none
 | .ptr _::_=>none
def fnA(f:FuncId):List Cap->A
 | []=>.fn f []
 |c::r=>match zv4 (c::r)with
  |some ds=>.ro (.clo f ds)
  |none=>.fn f (c::r)
def zb6(caps:List Cap):List (V×Option Nat):=caps.map λ| .ptr b=>(.one (.ptr b 0),none)| .ro d=>(.one (.ro d),none)
def zhn:Operand->Option Nat
 | .tmp t=>some t
 |_=>none
def zhp(P:Program)(io:FuncId->List Nat)(e:Env)(f:FuncId)(caps:List Cap)(args:List Operand)(tys:List TypeId):Option (List A×List Lent×zas):=
 if args.length=tys.length then match za0 P e (args.zip tys)with
  |some vs=>match lend e (io f) 0 (vs.zip (args.map zhn)++zb6 caps)with
   |some (as,m)=>if zax m&&zdq e m then match zar e m with
    |some bx=>some (as,m,bx)
    |none=>none
    else none
   |none=>none
  |none=>none
 else none
def zm2(m:List Lent)(r:V)(bx':zas):Bool:=r.leavesV&&(!m.any Lent.isRead||(r.flatRet&&zd8 bx'))
def zb7(P:Program)(io:FuncId->List Nat)(call:zai)(e:Env)(f:FuncId)(caps:List Cap)(args:List Operand)(tys:List TypeId):Option (V×Env):=
 match zhp P io e f caps args tys with
 |some (as,m,bx)=>match call f as bx with
  |some (r,bx')=>if zm2 m r bx' then match zdf e m bx' with
   |some e' =>some (r,e')
   |none=>none
   else none
  |none=>none
 |none=>none
def zg2(e:Env):List A->Env
 | []=>e
 | .view l::r=>zg2 (e.freeze l.root) r
 |_::r=>zg2 e r
def zso(e:Env)(t:Nat)(as:List A):Env:=match zga (e.set0 t .dead) as with
 |some (as',e')=>match zf5 as' with
  |some ds=>if t<e'.size then e'.set t (.one (.own (.agg ds)))else e
  |none=>e
 |none=>e
def zil(e:Env):Operand->Env
 | .tmp t=>match e.get t with
   | .agg as=>zso e t as
   |_=>e
 |_=>e
def zdz(io:List Nat)(e:Env):Nat->List Operand->Env
 |_,[]=>e
 |n,x::r=>zdz io (if io.contains n then zil e x else match x with
  | .tmp t=>match e.get t with
    | .one (.own _)=>e.freeze (.tmp t)
    | .one (.view l)=>e.freeze l.root
    | .agg as=>zg2 e as
    |_=>e
  |_=>e) (n+1) r
def ze4(P:Program)(io:FuncId->List Nat)(call:zai)(e:Env)(f:FuncId)(caps:List Cap)(args:List Operand)(tys:List TypeId):Option (V×Env):=
 match zhp P io e f caps args tys with
 |some (as,m,bx)=>match call f as bx with
  |some (r,bx')=>if zm2 m r bx' then match zdf e m bx' with
   |some e' =>some (r,e')
   |none=>none
   else zb7 P io call (zdz (io f) e 0 args) f caps args tys
  |none=>none
 |none=>zb7 P io call (zdz (io f) e 0 args) f caps args tys
def zap(e:Env)(dst:Option Nat)(v:V):Option Env:=match dst with
 |some d=>if d<e.size then some (e.set d v)else none
 |none=>some e
def znh(io:FuncId->List Nat)(f:FuncId):Bool:=(io f).contains 999
def z62(io:FuncId->List Nat)(f:FuncId):Bool:=(io f).contains 997
def A.isRo:A->Bool
 | .ro _=>true
 |_=>false
def zop(e:Env)(dst:Option Nat)(cs:List A):Option Env:=match dst with
 |some d=>if d<zaq&&cs.all A.isRo then zap (e.newBox d cs) (some d) (.one (.ptr d 0))else none
 |none=>none
def zk6(dst:Option Nat):Option (V×Env)->Option Env
 |some (v,e)=>match dst with
  |some d=>match zap e (some d) v with
   |some e2=>some (e2.freeze (.tmp d))
   |none=>none
  |none=>none
 |none=>none
def zv5(P:Program)(f:FuncId)(n:Nat)(T:TypeId)(l:List (Nat×FuncId)):Prop:=
 (∃fn,P.funcs[f]? =some fn/\fn.body.isSome=true/\fn.name≠ "runtime.NumGoroutine")/\
 ∀(vals:Array Value) (k0:Value) (w:World) (I:Nat->Value->World->Prop),vals.size=n->
  I 0 k0 (w.alloc (.cells vals T))->
  (∀i k w',I i k w' ->w'.heap[w.heap.size]? =some (.cells vals T (0,0)))->
  (∀i p,l[i]? =some p-> ∀k w',I i k w' ->Calls P p.2 #[vals.getD p.1 undef,k] w' (λen w'' => ∃v,en=.returned v/\I (i+1) v w''))->
  Calls P f #[.agg vals,k0] w (λen w' => ∃v,en=.returned v/\I l.length v w')
def zk7:List Nat->List (Nat×FuncId)
 |i::g::r=>(i,g)::zk7 r
 |_=>[]
def zb2(io:FuncId->List Nat)(call:zai)(t:Nat):List (Nat×FuncId)->Env->D->Option (D×Env)
 | [],e,d=>some (d,e)
 |(i,g)::r,e,d=>match e.get t with
  | .agg as=>match as[i]? with
    |some (.view l)=>match lend e (io g) 0 [(.one (.view l),none),(.one (.ro d),none)]with
     |some (as',m)=>if zax m&&zdq e m then match zar e m with
      |some bx=>match call g as' bx with
       |some (.one (.ro d'),bx')=>if zm2 m (.one (.ro d')) bx' then match zdf e m bx' with
        |some e' =>zb2 io call t r e' d'
        |none=>none
        else none
       |_=>none
      |none=>none
      else none
     |none=>none
    |_=>none
  |_=>none
open Classical in
noncomputable def zcz(P:Program)(io:FuncId->List Nat)(call:zai)(e:Env)(f:FuncId)(args:List Operand)(dst:Option Nat):List Nat->Option Env
 |n::T::r=>match args with
  | [.tmp t,y]=>match e.get t with
    | .agg as=>if as.length=n/\zv5 P f n T (zk7 r)then match za4 P e 0 y with
      |some (.one (.ro d))=>match zb2 io call t (zk7 r) e d with
       |some (d',e')=>zap e' dst (.one (.ro d'))
       |none=>none
      |_=>none
      else none
    |_=>none
  |_=>none
 |_=>none
noncomputable def zeo(P:Program)(io:FuncId->List Nat)(call:zai)(e:Env)(f:FuncId)(caps:List Cap)(args:List Operand)(tys:List TypeId)(dst:Option Nat):Option Env:=
 if (io f).contains 995 then match caps with
  | []=>zcz P io call e f args dst ((io f).drop 2)
  |_=>none
 else match zhp P io e f caps args tys with
 |some (as,[],[])=>match call f as []with
  |some (.agg cs,[])=>zop e dst cs
  |some (.one (.own _),[])=>zk6 dst (zb7 P io call e f caps args tys)
  |_=>none
 |_=>none
theorem zyp{P:Program}{io:FuncId->List Nat}{call:zai}{e:Env}{f:FuncId}{caps:List Cap}{args:List Operand}{tys:List TypeId}{x:V×Env}(h:ze4 P io call e f caps args tys=some x):
 zb7 P io call e f caps args tys=some x∨zb7 P io call (zdz (io f) e 0 args) f caps args tys=some x:=by
 unfold ze4 at h;split at h
 ·rename_i as m bx hp;split at h
  ·rename_i r bx' hc;split at h
   ·rename_i hok;refine .inl ?_;unfold zb7;simp only[hp,hc,hok,if_true];exact h
   ·exact .inr h
  ·cases h
 ·exact .inr h
def zaf:Nat:=2^40
def zce(P:Program)(ty:TypeId):Env->List Operand->Option (List D×Env)
 |e,[]=>some ([],e)
 |e,x::r=>match take P e ty x with
  |some (v,e')=>match v.inner with
   |some d=>match zce P ty e' r with
    |some (ds,e'')=>some (d::ds,e'')
    |none=>none
   |none=>none
  |none=>none
def zjh:Nat->List (Nat×Operand)->Bool
 |_,[]=>true
 |i,(j,_)::r=>i==j&&zjh (i+1) r
def zcf{α:Type}(l:List α):Nat->List α->List α
 |_,[]=>l
 |o,a::r=>zcf (l.set o a) (o+1) r
def zgb(P:Program)(s:TypeId)(j:Nat):Option (Nat×TypeId):=match P.underlying s with
 |some (.array _ el)=>match zbj P el with
  |some z=>some (j*z,el)
  |none=>none
 |_=>fieldAt P s j
def zps(P:Program)(s:TypeId):Env->List A->List (Nat×Operand)->Option (List A×Env)
 |e,cs,[]=>some (cs,e)
 |e,cs,(i,x)::r=>match zgb P s i with
  |some (off,ty)=>match take P e ty x with
   |some (v,e')=>match v.cellsA with
    |some as=>if zbj P ty=some as.length&&off+as.length<=cs.length&&as.all A.portable then zps P s e' (zcf cs off as) r else none
    |none=>none
   |none=>none
  |none=>none
def roOp(P:Program)(e:Env)(ty:TypeId):Operand->Option A
 | .tmp t=>match e.get t with
   | .one (.ro d)=>some (.ro d)
   |_=>none
 | .const v=>zf4 P ty v
 |_=>none
def zj6(P:Program)(s:TypeId)(e:Env):List A->List (Nat×Operand)->Option (List A)
 |cs,[]=>some cs
 |cs,(i,x)::r=>match zgb P s i with
  |some (off,ty)=>match roOp P e ty x with
   |some v=>match(V.one v).cellsA with
    |some as=>if zbj P ty=some as.length&&off+as.length<=cs.length&&as.all A.portable then zj6 P s e (zcf cs off as) r else none
    |none=>none
   |none=>none
  |none=>none
theorem zpt{P:Program}{e:Env}{ty:TypeId}{x:Operand}{v:A}(h:roOp P e ty x=some v):take P e ty x=some (.one v,e):=by
 cases x with
 |tmp t=>
  simp only[roOp]at h;split at h
  ·rename_i d hd;cases h;simp only[take,hd,zez]
  ·cases h
 |const c=>
  simp only[roOp]at h;simp only[take,h]
 |_=>cases h
theorem zpu{P:Program}{s:TypeId}{e:Env}:∀{parts:List (Nat×Operand)} {cs as:List A},zj6 P s e cs parts=some as->zps P s e cs parts=some (as,e)
 | [],cs,as,h=>by cases h;rfl
 |(i,x)::r,cs,as,h=>by
  unfold zj6 at h;unfold zps;split at h
  ·rename_i off ty hp;split at h
   ·rename_i v hv;rw[zpt hv];dsimp only;split at h
    ·rename_i as' ha;split at h
     ·rename_i hc;rw[if_pos hc];exact zpu h
     ·cases h
    ·cases h
   ·cases h
  ·cases h
def zbb(n:Nat)(lo hi:Option D):Option (Nat×Nat):=
 match hi with
 |some (.int _ h)=>if 0<=h&&h<=(n:Int)then match lo with
  |some (.int _ l)=>if 0<=l&&l<=h then some (l.toNat,h.toNat)else none
  |none=>some (0,h.toNat)
  |_=>none
  else none
 |none=>match lo with
  |some (.int _ l)=>if 0<=l&&l<=(n:Int)then some (l.toNat,n)else none
  |none=>some (0,n)
  |_=>none
 |_=>none
def rdO(P:Program)(e:Env)(ty:TypeId):Option Operand->Option (Option D)
 |none=>some none
 |some x=>match rd P e ty x with
  |some d=>some (some d)
  |none=>none
def A.live(e:Env):A->Bool
 | .ptr b _=>decide (b<zab)&&(e.box b).isSome
 | .eptr l z i _=>match e.ownAt l with
   |some (.sl z' xs)=>decide (z=z')&&decide (i<xs.length)
   |_=>false
 | .rptr _=>true
 |_=>false
def A.move(off:Nat):A->Option A
 | .ptr b o=>some (.ptr b (o+off))
 | .eptr l z i o=>some (.eptr l z i (o+off))
 | .rptr ds=>some (.rptr (ds.drop off))
 |_=>none
def zv6:D->Option Bool
 | .snil=>some true
 | .sne=>some false
 | .sl _ (_::_)=>some false
 |_=>none
def zyq:Operand->Bool
 | .const (.slice none 0 0)=>true
 |_=>false
def isSl(P:Program)(t:TypeId):Bool:=match P.underlying t with
 |some (.slice _)=>true
 |_=>false
def z2p(P:Program)(op:BinOp)(t:TypeId)(y:Operand)(a:D):Option D:=if zyq y&&isSl P t then match op with
    | .eql=>match zv6 a with
      |some b=>some (.bool b)
      |none=>none
    | .neq=>match zv6 a with
      |some b=>some (.bool !b)
      |none=>none
    |_=>none
 else none
def sumTab:List Nat:=[1116352408,1899447441,3049323471,3921009573,961987163,1508970993,2453635748,2870763221,3624381080,310598401,607225278,1426881987,1925078388,2162078206,2614888103,3248222580,3835390401,4022224774,264347078,604807628,770255983,1249150122,1555081692,1996064986,2554220882,2821834349,2952996808,3210313671,3336571891,3584528711,113926993,338241895,666307205,773529912,1294757372,1396182291,1695183700,1986661051,2177026350,2456956037,2730485921,2820302411,3259730800,3345764771,3516065817,3600352804,4094571909,275423344,430227734,506948616,659060556,883997877,958139571,1322822218,1537002063,1747873779,1955562222,2024104815,2227730452,2361852424,2428436474,2756734187,3204031479,3329325298]
def zyr:String:= "loop.example/jackstay/impl.sumRounds"
def zys(P:Program)(q:Nat):Bool:=P.globalNamed zyr==some q
def mxI(a b:Int):Int:=if a<=b then b else a
def zbe(P:Program)(e:Env)(ty:TypeId):Op->Option V
 | .binOp op xt x y yt=>match rd P e xt x with
   |some a=>match z2p P op xt y a with
    |some d=>some (.one (.ro d))
    |none=>match rd P e yt y with
     |some b=>match z2o P op xt x y a b with
      |some d=>some (.one (.ro d))
      |none=>none
     |none=>none
   |none=>none
 | .unOp op xt x=>match rd P e xt x with
   |some a=>match evUn op a with
    |some d=>some (.one (.ro d))
    |none=>none
   |none=>none
 | .convert s d x=>match rd P e s x with
   |some a=>match zut P s d a with
    |some r=>some (.one (.ro r))
    |none=>none
   |none=>none
 | .pick c a b=>match rd P e 0 c with
   |some (.bool t)=>match(if t then rd P e ty a else rd P e ty b)with
    |some d=>if d.flat then some (.one (.ro d))else none
    |none=>none
   |_=>none
 | .nilCheck (.tmp t)=>match e.get t with
   | .one a=>if a.live e then some (.one a)else none
   |_=>none
 | .fieldAddr s (.tmp t) f=>match fieldAt P s f with
   |some (off,ft)=>match zbj P ft with
    |some (_+1)=>match e.get t with
     | .one a=>if a.live e then(match a.move off with
       |some a' =>some (.one a')
       |none=>none)else none
     |_=>none
    |_=>none
   |none=>none
 | .indexAddr t (.tmp x) i=>match rd P e 0 i with
   |some (.int _ n)=>match P.underlying t with
    |some (.slice _)=>match zOf P t with
     |some z=>match e.get x with
      | .one (.ro (.sl z' xs))=>if z=z' &&0<=n then match xs[n.toNat]? with
        |some y=>some (.one (.rptr y.cells))
        |none=>none
        else none
      | .one (.own (.sl z' xs))=>if z=z' &&0<=n&&n<(xs.length:Int)then some (.one (.eptr ⟨.tmp x,[]⟩ z n.toNat 0))else none
      | .one (.view l)=>match e.ownAt l with
        |some (.sl z' xs)=>if z=z' &&0<=n&&n<(xs.length:Int)then some (.one (.eptr l z n.toNat 0))else none
        |_=>none
      |_=>none
     |none=>none
    |some (.array m el)=>match zbj P el with
     |some (z+1)=>match e.get x with
      | .one a=>if a.live e&&decide (0<=n)&&decide (n<(m:Int))then(match a.move (n.toNat*(z+1))with
        |some a' =>some (.one a')
        |none=>none)else none
      |_=>none
     |_=>none
    |_=>none
   |_=>none
 | .indexAddr t (.global q) i=>match rd P e 0 i with
   |some (.int _ n)=>match P.underlying t with
    |some (.array m el)=>if zys P q&&decide (zbj P el=some 1)&&decide (0<=n)&&decide (n<(m:Int))then match sumTab[n.toNat]? with
     |some x=>some (.one (.rptr [.int .u32 x]))
     |none=>none
     else none
    |_=>none
   |_=>none
 | .index t x i=>match rd P e 0 i with
   |some (.int _ n)=>match rd P e t x with
    |some (.str s)=>match P.underlying t with
     |some .string=>if 0<=n then match s.data[n.toNat]? with
      |some b=>some (.one (.ro (.int .u8 b.toNat)))
      |none=>none
      else none
     |_=>none
    |some (.agg ds)=>match P.underlying t with
     |some (.array m el)=>if zbj P el=some 1&& !zbi P el&&0<=n&&n<(m:Int)then match ds[n.toNat]? with
      |some d=>if d.flat then some (.one (.ro d))else none
      |none=>none
      else none
     |_=>none
    |_=>none
   |_=>none
 | .field s x f=>match rd P e s x with
   |some (.agg ds)=>match fieldAt P s f with
    |some (off,ft)=>if zbj P ft=some 1&& !zbi P ft then match ds[off]? with
     |some d=>if d.flat then some (.one (.ro d))else none
     |none=>none
     else none
    |none=>none
   |_=>none
 | .load t (.tmp a)=>match e.get a with
   | .one p=>match zbj P t with
     |some n=>zf6 e (zbi P t) n p
     |none=>none
   |_=>none
 | .makeInterface t x=>match P.underlying t with
   |some (.interface _)=>none
   |some _=>match rd P e t x with
    |some d=>if d.flat then some (.one (.ro (.iface t d)))else none
    |none=>none
   |none=>none
 | .call c=>match c.callee,c.args.toList,c.argTypes.toList with
   | .builtin .len,[x],[t]=>match rd P e t x with
     |some (.str s)=>match P.underlying t with
      |some .string=>some (.one (.ro (.int .i64 s.size)))
      |_=>none
     |some (.sl _ xs)=>match P.underlying t with
      |some (.slice _)=>some (.one (.ro (.int .i64 xs.length)))
      |_=>none
     |_=>none
   | .builtin .min,[x,y],[t,u]=>match rd P e t x,rd P e u y with
     |some (.int k a),some (.int k' b)=>if k=k' then some (.one (.ro (.int k (if a<=b then a else b))))else none
     |_,_=>none
   | .builtin .max,[x,y],[t,u]=>match rd P e t x,rd P e u y with
     |some (.int k a),some (.int k' b)=>if k=k' then some (.one (.ro (.int k (if a<=b then b else a))))else none
     |_,_=>none
   | .builtin .max,[x,y,x3,x4,x5],[t,u,t3,t4,t5]=>match rd P e t x,rd P e u y,rd P e t3 x3,rd P e t4 x4,rd P e t5 x5 with
     |some (.int k a),some (.int _ b),some (.int _ c),some (.int _ d),some (.int _ f)=>some (.one (.ro (.int k (mxI (mxI (mxI (mxI a b) c) d) f))))
     |_,_,_,_,_=>none
   |_,_,_=>none
 |_=>none
def zk8(P:Program)(e:Env):List Operand->Option (List Cap)
 | []=>some []
 |x::r=>match za4 P e 0 x,zk8 P e r with
  |some (.one (.ptr b 0)),some cs=>some (.ptr b::cs)
  |some (.one (.ro d)),some cs=>some (.ro d::cs)
  |_,_=>none
def zim(P:Program)(t:TypeId):Bool:=match P.underlying t with
 |some (.struct fs)=>fs.toList.all λf=>(P.info? f.type).isSome
 |some (.array _ el)=>(P.info? el).isSome
 |_=>false
def z2q(P:Program)(el:TypeId):Option D:=match zhm P el with
 |some as=>match zf5 as with
  |some ds=>if zbi P el then some (.agg ds)else match ds with
   | [d]=>some d
   |_=>none
  |none=>none
 |none=>none
def zdu(P:Program)(e:Env)(dst:Option Nat)(t:TypeId)(x:Operand)(z:Nat)(ys:List D):Option Env:=
 match take P e t x with
 |some (.one (.own (.sl z' xs)),e2)=>if z' =z&&xs.length+ys.length<=zaf then zap e2 dst (.one (.own (.sl z (xs++ys))))else none
 |_=>none
def zyt(P:Program)(t:TypeId):Bool:=match P.underlying t with
 |some .string=>true
 |_=>false
def zk9(P:Program)(_:Env)(dst:Option Nat)(t:TypeId)(s:ByteArray):Option (V×Env)->Option Env
 |some (.one (.own (.bs el b)),e2)=>if zyo P t=some el&&b.size+s.size<=zaf then zap e2 dst (.one (.own (.bs el (b++s))))else none
 |_=>none
def A.isBs:A->Bool
 | .own (.bs _ _)=>true
 |_=>false
def V.isBs:V->Bool
 | .one a=>a.isBs
 |_=>false
def z2r:Option (V×Env)->Bool
 |some (v,_)=>v.isBs
 |none=>false
def zpv:List D->Option (List UInt8)
 | []=>some []
 | .int .u8 n::r=>if 0<=n/\n<256 then match zpv r with
   |some bs=>some (n.toNat.toUInt8::bs)
   |none=>none
   else none
 |_=>none
def zg3(P:Program)(e:Env)(dst:Option Nat)(t u:TypeId)(ys:List D)(v:Option (V×Env)):Option Env:=match zpv ys with
 |some (b::bs)=>if t=u/\zOf P t=some 1 then zk9 P e dst t ⟨(b::bs).toArray⟩ v else none
 |_=>none
def zku(P:Program)(e:Env)(dst:Option Nat)(t:TypeId)(x:Operand)(s:ByteArray):Option Env:=
 if z2r (take P e t x)then zk9 P e dst t s (take P e t x)else zdu P e dst t x 1 (za2 s)
def zla(e:Env)(x y:Operand):Bool:=match x,y with
 | .tmp a,.tmp b=>match e.get a,e.get b with
   | .one (.view l),.one (.view l')=>match e.ownAt l with
     |some _=>l.root==l'.root&&l.path.isEmpty&&l'.path.isEmpty
     |none=>false
   |_,_=>false
 |_,_=>false
def zin(P:Program)(e:Env)(dst:Option Nat)(t:TypeId)(x:Operand)(z:Nat):Option Env:=match take P e t x with
 |some (.one (.own (.sl z' xs)),e2)=>if decide (z' =z)&&decide (xs.length+xs.length<=zaf)&& !xs.isEmpty then zap e2 dst (.one (.ro (.sl z (xs++xs))))else none
 |_=>none
def zg4(P:Program)(e:Env)(dst:Option Nat)(t u:TypeId)(x y:Operand):Option Env:=
 match zOf P t with
 |some z=>match rd P e u y with
  |some (.sl z' ys)=>if z' =z&&zOf P u=some z then
   (if flats ys then(if z2r (take P e t x)then zg3 P e dst t u ys (take P e t x)else zdu P e dst t x z ys)
    else if zla e x y then zin P e dst t x z
    else match take P e u y with
     |some (.one (.own (.sl z2 ys')),e')=>if z2=z then zdu P e' dst t x z ys' else none
     |_=>none)
   else none
  |some (.str s)=>if z=1&&zyt P u then zku P e dst t x s else none
  |some .sne=>if zOf P u=some z then zdu P e dst t x z []else none
  |_=>none
 |none=>none
def zyu:A->Option Loc
 | .view l=>match l.root with
   | .cell _ _=>some l
   | .tmp _=>none
 |_=>none
def zfo(e:Env)(x:Operand):Option Loc:=match x with
 | .tmp t=>match e.get t with
   | .one a=>zyu a
   |_=>none
 |_=>none
def zgc(P:Program)(e:Env)(t:TypeId)(x:Operand)(lo hi:Option Operand)(pl:Loc):Option V:=match rdO P e 0 lo,rdO P e 0 hi with
 |some l,some h=>match rd P e t x with
  |some (.sl z xs)=>if zOf P t=some z then match zbb xs.length l h with
   |some (i,j)=>some (.one (.pview pl i j))
   |none=>none
   else none
  |_=>none
 |_,_=>none
def Env.dropBox(e:Env)(b:Nat):Env:={e.mapA (A.killBox b)with boxes:=λb' =>if b' =b then none else e.boxes b'}
def z5e(e:Env):Operand->Option Nat
 | .tmp t=>match e.get t with
   | .one (.ptr b 0)=>some b
   |_=>none
 |_=>none
def zsp(e:Env)(m:Nat)(b:Nat):Option (List D):=if b<zab then match e.box b with
 |some cs=>match zoo cs with
  |some ds=>if ds.length=m&&ds.all (λd=>d.flat&& !d.isAgg)then some ds else none
  |none=>none
 |none=>none
 else none
def zg5(P:Program)(e:Env)(dst:Option Nat)(t:TypeId)(x:Operand)(l h:Option D):Option Env:=match P.underlying t,z5e e x with
 |some (.array m el),some b=>if zbj P el=some 1 then match zsp e m b with
  |some ds=>match zbb m l h with
   |some (i,j)=>zap (e.dropBox b) dst (.one (.ro (.sl 1 ((ds.take j).drop i))))
   |none=>none
  |none=>none
  else none
 |_,_=>none
noncomputable def evOp(P:Program)(io:FuncId->List Nat)(call:zai)(e:Env)(o:Oper):Option Env:=
 match o.op with
 | .move x=>match x with
   | .tmp t=>match e.get t with
     | .one (.own _)=>zap e o.dst (.one (.view ⟨.tmp t,[]⟩))
     | .one a=>zap e o.dst (.one a)
     | .tup as=>if as.all A.isRo then zap e o.dst (.tup as)else match take P e o.type x with
       |some (v,e')=>zap e' o.dst v
       |none=>none
     |_=>match take P e o.type x with
      |some (v,e')=>zap e' o.dst v
      |none=>none
   |x=>match take P e o.type x with
    |some (v,e')=>zap e' o.dst v
    |none=>none
 | .assign x=>match take P e o.type x with
   |some (v,e')=>zap e' o.dst v
   |none=>none
 | .extract (.tmp t) i=>match e.get t with
   | .tup as=>match as[i]? with
     |some a=>if a.isRo then zap e o.dst (.one a)else match o.dst with
      |some d=>if d=t then none else zap (e.set0 t (.tup (as.set i .dead))) (some d) (.one a)
      |none=>none
     |none=>none
   |_=>none
 | .alloc t=>match o.dst with
   |some d=>match zhm P t with
    |some cs=>if d<zaq&&cs.all A.portable then zap (e.newBox d (zux t (zuv P t) cs)) (some d) (.one (.ptr d 0))else none
    |none=>none
   |none=>none
 | .box t x=>match o.dst with
   |some d=>match take P e t x with
    |some (v,e')=>match v.cellsA with
     |some cs=>if zbj P t=some cs.length&&d<zaq&&cs.all A.portable then zap (e'.newBox d cs) (some d) (.one (.ptr d 0))else none
     |none=>none
    |none=>none
   |none=>none
 | .store t (.tmp a) x=>if o.dst.isNone then match zbj P t,take P e t x with
   |some n,some (v,e')=>match e'.get a with
    | .one p=>zk3 e' n v p
    |_=>none
   |_,_=>none
   else none
 | .buildSlice t n parts=>match P.underlying t with
   |some (.slice el)=>match zij P el with
    |some z=>if zjh 0 parts.toList&&parts.size=n&&n*z<=1000 then match zce P el e (parts.toList.map (·.2))with
     |some (ds,e')=>if ds.all (λd=>d.cells.length=z)then zap e' o.dst (.one (.own (.sl z ds)))else none
     |none=>none
     else none
    |none=>none
   |_=>none
 | .build t parts=>match zhm P t with
   |some cs=>if zim P t&&cs.all A.portable then match zps P t e cs parts.toList with
    |some (as,e')=>zap e' o.dst (zpr as)
    |none=>none
    else none
   |none=>none
 | .makeSlice t n c=>match P.underlying t with
   |some (.slice el)=>match zij P el,z2q P el,rd P e 0 n,rd P e 0 c with
    |some z,some d,some (.int _ l),some (.int _ cp)=>if 0<=l&&l<=cp&&cp<=(zaf:Int)&&d.cells.length=z then
     zap e o.dst (.one (.own (.sl z (List.replicate l.toNat d))))else none
    |_,_,_,_=>none
   |_=>none
 | .slice t x lo hi mx=>match mx with
   |some _=>none
   |none=>match zfo e x with
    |some pl=>match zgc P e t x lo hi pl with
     |some v=>zap e o.dst v
     |none=>none
    |none=>match rdO P e 0 lo,rdO P e 0 hi with
     |some l,some h=>match rd P e t x with
      |some (.str s)=>match P.underlying t with
       |some .string=>match zbb s.size l h with
        |some (i,j)=>zap e o.dst (.one (.ro (.str (s.extract i j))))
        |none=>none
       |_=>none
      |some (.sl z xs)=>if zOf P t=some z then match zbb xs.length l h with
       |some (i,j)=>zap (zcd e x) o.dst (.one (.ro (.sl z ((xs.take j).drop i))))
       |none=>none
       else none
      |none=>zg5 P e o.dst t x l h
      |_=>none
     |_,_=>none
 | .makeFunc (.func f) first captured=>if z62 io f then zap e o.dst (.one (.own .hole))else if first.size=0 then match zk8 P e captured.toList with
   |some caps=>zap e o.dst (.one (fnA f caps))
   |none=>match zce P 0 e captured.toList with
    |some (ds,e')=>zap e' o.dst (.one (.own (.clo f ds)))
    |none=>none
   else none
 | .call c=>match c.callee with
   | .builtin .append=>match c.args.toList,c.argTypes.toList with
     | [x,y],[t,u]=>zg4 P e o.dst t u x y
     |_,_=>none
   | .builtin _=>match zbe P e o.type o.op with
     |some v=>zap e o.dst v
     |none=>none
   | .value f=>match zhz (za4 P e 0 f)with
     |some (.one (.fn f caps))=>if znh io f then zeo P io call e f caps c.args.toList c.argTypes.toList o.dst else match ze4 P io call e f caps c.args.toList c.argTypes.toList with
      |some (v,e')=>zap e' o.dst v
      |none=>none
     |_=>none
   | .invoke ..=>none
 | .convert s d x=>match zik P s d,rd P e s x with
   |true,some (.str s)=>if s.size<=zag then zap e o.dst (.one (.own (.sl 1 (za2 s))))else none
   |_,_=>match zbe P e o.type o.op with
    |some v=>zap e o.dst v
    |none=>none
 |op=>match zbe P e o.type op with
  |some v=>zap e o.dst v
  |none=>none
def zji(ops:List Oper)(e:Env)(o:Oper):Option Bool:=match o.guard with
 |none=>some true
 |some (j,want)=>match ops[j]? with
  |some oj=>match oj.dst with
   |some d=>match e.get d with
    | .one (.ro (.bool b))=>some (b==want)
    | .one .undef=>some false
    |_=>none
   |none=>none
  |none=>none
noncomputable def z63(P:Program)(io:FuncId->List Nat)(call:zai)(ops:List Oper)(o:Oper)(e:Env):Option Env:=
 match zji ops e o with
 |some true=>evOp P io call e o
 |some false=>zap e o.dst .undef
 |none=>none
inductive Ex where
 |n|x (id:Nat)|r
 deriving Inhabited
abbrev Res:=Option (Ex×Env)
abbrev zio:=(Env->Res)->Env->Res
def zay(o:Op):List Nat:=o.operands.toList.filterMap λ| .tmp t=>some t|_=>none
def zj7(k:Env->Res):Ex×Env->Res
 |(.n,e)=>k e
 |(x,e)=>some (x,e)
def zgd(id:Nat):Ex×Env->Res
 |(.x i,e)=>if i=id then some (.n,e)else some (.x i,e)
 |(x,e)=>some (x,e)
def zjj(e:Env):Res:=some (.n,e)
def iter(f:Env->Res):Nat->Env->Res
 |0,_=>none
 |n+1,e=>match f e with
  |some (.n,e')=>iter f n e'
  |r=>r
def ros:List A->Option (List D)
 | []=>some []
 | .ro d::r=>match ros r with
   |some ds=>some (d::ds)
   |none=>none
 |_=>none
def zyv(as:List A):Option A:=
 if as.any A.isOwn then match zf5 as with
  |some ds=>some (.own (.agg ds))
  |none=>none
 else match ros as with
  |some ds=>some (.ro (.agg ds))
  |none=>none
def zlb(P:Program)(e:Env):ResultVar->TypeId->Option (A×Env)
 | .tmp t,ty=>match take P e ty (.tmp t)with
   |some (.one a,e')=>some (a,e')
   |some (.agg as,e')=>match zyv as with
    |some a=>some (a,e')
    |none=>none
   |_=>none
 | .cell t ct,_=>match e.get t with
   | .one p=>match zbj P ct with
     |some n=>match zf6 e (zbi P ct) n p with
      |some (.one a)=>zez e a
      |some (.agg as)=>match zga e as with
       |some (as',e')=>match zyv as' with
        |some a=>some (a,e')
        |none=>none
       |none=>none
      |_=>none
     |none=>none
   |_=>none
def zfp(P:Program):Env->List (ResultVar×TypeId)->Option (List A×Env)
 |e,[]=>some ([],e)
 |e,(r,ty)::rs=>match zlb P e r ty with
  |some (a,e')=>match zfp P e' rs with
   |some (as,e'')=>some (a::as,e'')
   |none=>none
  |none=>none
def zd9(e:Env):zas->Option (zas)
 | []=>some []
 |(n,_)::r=>match e.box n with
  |some cs=>if cs.all A.portable then match zd9 e r with
   |some m=>some ((n,cs)::m)
   |none=>none
   else none
  |none=>none
def zni(P:Program)(fn:Func)(e:Env)(bx:zas):Option (V×zas):=
 if fn.results.size=fn.resultTypes.size then match zfp P e (fn.results.toList.zip fn.resultTypes.toList)with
  |some (as,e')=>if as.all A.leaves then match zd9 e' bx with
   |some m=>match as with
    | [a]=>some (.one a,m)
    |as=>some (.tup as,m)
   |none=>none
   else none
  |none=>none
 else none
def zak(n:Nat)(args:List A)(bx:zas):Env:=
 {size:=n,tmps:=λt=>match args[t]? with|some a=>.one a|none=>.undef,boxes:=λb=>za5 b bx}
end Go.Qz
