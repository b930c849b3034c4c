import GoSem.Dispatch
import Derived.Calls
import Derived.Laws.World
namespace Go.Qz
inductive D where
 |int (k:IntKind) (n:Int)
 |bool (b:Bool)
 |str (s:ByteArray)
 |sl (z:Nat) (xs:List D)
 |agg (cs:List D)
 |nilp
 |nilf
 |nili
 |iface (t:TypeId) (d:D)
 |hole
 |snil
 |sne
 |bs (u:TypeId) (s:ByteArray)
 |clo (f:FuncId) (ds:List D)
 |seq (f:FuncId) (s p:ByteArray)
 deriving Inhabited
def D.cells:D->List D
 | .agg cs=>cs
 |d=>[d]
def D.isAgg:D->Bool
 | .agg _=>true
 |_=>false
def D.withCells:D->List D->D
 | .agg _,cs=>.agg cs
 |d,cs=>match cs with
  | [c]=>c
  |_=>d
mutual
def D.flat:D->Bool
 | .sl _ _=>false
 | .hole=>false
 | .bs _ _=>false
 | .clo _ ds=>flats ds
 | .seq _ _ _=>false
 | .agg cs=>flats cs
 | .iface _ d=>d.flat
 |_=>true
def flats:List D->Bool
 | []=>true
 |d::r=>d.flat&&flats r
end
def D.cellAt(z i o:Nat):D->Option D
 | .sl z' xs=>if z=z' then match xs[i]? with
   |some x=>x.cells[o]?
   |none=>none
   else none
 |_=>none
def D.setAt(d:D)(z i o:Nat)(c:D):D:=match d with
 | .sl z' xs=>match xs[i]? with
   |some x=>if z=z' then .sl z' (xs.set i (x.withCells (x.cells.set o c)))else .sl z' xs
   |none=>.sl z' xs
 |d=>d
abbrev Path:=List (Nat×Nat×Nat)
def D.sub:D->Path->Option D
 |d,[]=>some d
 |d,(z,i,o)::p=>match d.cellAt z i o with
  |some c=>c.sub p
  |none=>none
def D.repl:D->Path->D->D
 |_,[],c=>c
 |d,(z,i,o)::p,c=>match d.cellAt z i o with
  |some c' =>d.setAt z i o (c'.repl p c)
  |none=>d
inductive Root where
 |tmp (t:Nat)
 |cell (b o:Nat)
 deriving DecidableEq,Inhabited
structure Loc where
 root:Root
 path:Path:=[]
 deriving DecidableEq,Inhabited
inductive Cap where
 |ptr (b:Nat)
 |ro (d:D)
 deriving Inhabited
inductive A where
 |ro (d:D)
 |own (d:D)
 |view (l:Loc)
 |ptr (b o:Nat)
 |eptr (l:Loc) (z i o:Nat)
 |pview (l:Loc) (i k:Nat)
 |rptr (ds:List D)
 |fn (f:FuncId) (caps:List Cap)
 |selfp
 |bnil (t:TypeId)
 |undef
 |dead
 deriving Inhabited
inductive V where
 |one (a:A)
 |tup (as:List A)
 |agg (as:List A)
 deriving Inhabited
abbrev zar:=List (Nat×List A)
structure Env where
 size:Nat
 tmps:Nat->V
 boxes:Nat->Option (List A)
def V.dead:V:=.one .dead
def V.undef:V:=.one .undef
def A.isSelf:A->Bool
 | .selfp| .bnil _=>true
 |_=>false
def A.isOwn:A->Bool
 | .own _=>true
 |_=>false
def V.mapA(f:A->A):V->V
 | .one a=>.one (f a)
 | .tup as=>.tup (as.map f)
 | .agg as=>.agg (as.map f)
def zbe(b:Nat):zar->Option (List A)
 | []=>none
 |(b',cs)::r=>if b=b' then some cs else zbe b r
def Env.get(e:Env)(t:Nat):V:=e.tmps t
def Env.box(e:Env)(b:Nat):Option (List A):=e.boxes b
def Env.set0(e:Env)(t:Nat)(v:V):Env:={e with tmps:=λt' =>if t' =t then v else e.tmps t'}
def Env.setBox(e:Env)(b:Nat)(cs:List A):Env:={e with boxes:=λb' =>if b' =b then some cs else e.boxes b'}
def Env.mapA(e:Env)(f:A->A):Env:={e with tmps:=λt=>(e.tmps t).mapA f}
def Env.root(e:Env):Root->A
 | .tmp t=>match e.get t with
   | .one a=>a
   |_=>.dead
 | .cell b o=>match e.box b with
   |some cs=>cs.getD o .dead
   |none=>.dead
def Env.ownAt(e:Env)(l:Loc):Option D:=match e.root l.root with
 | .own d=>d.sub l.path
 |_=>none
def Env.setRoot(e:Env)(r:Root)(a:A):Env:=match r with
 | .tmp t=>e.set0 t (.one a)
 | .cell b o=>match e.box b with
   |some cs=>e.setBox b (cs.set o a)
   |none=>e
def A.drop(r:Root):A->A
 | .view l=>if l.root=r then .dead else .view l
 | .eptr l z i o=>if l.root=r then .dead else .eptr l z i o
 | .pview l i k=>if l.root=r then .dead else .pview l i k
 |a=>a
def A.turn(r:Root):A->A
 | .view l=>if l.root=r&& !l.path.isEmpty then .dead else .view l
 | .eptr l z i o=>if l.root=r&& !l.path.isEmpty then .dead else .eptr l z i o
 | .pview l i k=>if l.root=r&& !l.path.isEmpty then .dead else .pview l i k
 |a=>a
def Env.setLoc(e:Env)(l:Loc)(d:D):Env:=match e.root l.root with
 | .own r=>(e.mapA (A.turn l.root)).setRoot l.root (.own (r.repl l.path d))
 |_=>e
def Env.vacate(e:Env)(l:Loc):Env:=match l.path with
 | []=>e.setRoot l.root .dead
 |_=>e.setLoc l .hole
def Env.set(e:Env)(t:Nat):V->Env
 | .one (.own d)=>(e.mapA (A.drop (.tmp t))).set0 t (.one (.own d))
 |v=>e.set0 t v
def A.thaw(e:Env)(r:Root):A->A
 | .view l=>if l.root=r then match e.ownAt l with
   |some d=>.ro d
   |none=>.dead
   else .view l
 | .eptr l z i o=>if l.root=r then .dead else .eptr l z i o
 | .pview l i k=>if l.root=r then .dead else .pview l i k
 |a=>a
def Env.freeze(e:Env)(r:Root):Env:=match e.root r with
 | .own d=>(e.mapA (A.thaw e r)).setRoot r (.ro d)
 |_=>e
def A.data(e:Env):A->Option D
 | .ro d| .own d=>some d
 | .view l=>e.ownAt l
 |_=>none
def datas(e:Env):List A->Option (List D)
 | []=>some []
 |a::r=>match a.data e with
  |some d=>match datas e r with
   |some ds=>some (d::ds)
   |none=>none
  |none=>none
def V.data(e:Env):V->Option D
 | .one a=>a.data e
 | .agg as=>match datas e as with
   |some ds=>some (.agg ds)
   |none=>none
 | .tup _=>none
def Cap.refsBox(b:Nat):Cap->Bool
 | .ptr b' =>b' =b
 | .ro _=>false
def Root.inBox(b:Nat):Root->Bool
 | .cell b' _=>b' =b
 |_=>false
def A.killBox(b:Nat):A->A
 | .view l=>if l.root.inBox b then .dead else .view l
 | .eptr l z i o=>if l.root.inBox b then .dead else .eptr l z i o
 | .pview l i k=>if l.root.inBox b then .dead else .pview l i k
 | .ptr b' o=>if b' =b then .dead else .ptr b' o
 | .fn f caps=>if caps.any (Cap.refsBox b)then .dead else .fn f caps
 |a=>a
def Env.newBox(e:Env)(b:Nat)(cs:List A):Env:=(e.mapA (A.killBox b)).setBox b cs
def zaf:Nat:=10000
def zat:Nat:=5000
def zdr:Value->Option D
 | .int k n=>some (.int k n)
 | .bool b=>some (.bool b)
 | .string s=>some (.str s)
 | .pointer none=>some .nilp
 | .nilFunc=>some .nilf
 | .nilIface=>some .nili
 |_=>none
end Go.Qz
namespace Go.Qz
def zbq(P:Program)(t:TypeId):Option Nat:=match P.info? t with
 |some i=>match P.underlying t with
  |some _=>some i.size
  |none=>none
 |none=>none
def zhl(P:Program)(e:TypeId):Option Nat:=match P.info? e with
 |some i=>match P.underlying e with
  |some _=>match i.zero with
   |some z=>if 0<i.size&&i.bytes<=128&&z.cells.size=i.size then some i.size else none
   |none=>none
  |none=>none
 |none=>none
def zOf(P:Program)(t:TypeId):Option Nat:=match P.underlying t with
 |some (.slice e)=>zhl P e
 |_=>none
def _root_.Option.then_{α β:Type}(x:Option α)(f:α->Option β):Option β:=match x with
 |some a=>f a
 |none=>none
def zhc(P:Program)(ty:TypeId)(v:Value):Option A:=
 match v with
 | .slice none 0 0=>match zOf P ty with
   |some z=>some (.own (.sl z []))
   |none=>none
 |v=>match zdr v with
  |some d=>some (.ro d)
  |none=>none
def rd(P:Program)(e:Env)(ty:TypeId):Operand->Option D
 | .tmp t=>(e.get t).data e
 | .const v=>match zhc P ty v with
   |some a=>a.data e
   |none=>none
 |_=>none
def A.portable:A->Bool
 | .ro _| .own _| .selfp| .bnil _| .undef| .dead=>true
 | .fn _ []=>true
 |_=>false
def zfx(e:Env):A->Option (A×Env)
 | .view l=>match e.ownAt l with
   |some d=>some (.own d,e.vacate l)
   |none=>none
 | .pview l i k=>match e.ownAt l with
   |some (.sl z xs)=>if i=0/\k<=xs.length then some (.own (.sl z (xs.take k)),e.vacate l)else none
   |_=>none
 | .dead=>none
 |a=>some (a,e)
def A.atRoot:A->Bool
 | .view l=>l.path.isEmpty
 | .pview l _ _=>l.path.isEmpty
 |_=>true
def zhm(e:Env):List A->Option (List A×Env)
 | []=>some ([],e)
 |a::r=>match zfx e a with
  |some (a',e')=>if a.atRoot&&a'.portable then match zhm e' r with
   |some (r',e'')=>some (a' ::r',e'')
   |none=>none
   else none
  |none=>none
def take(P:Program)(e:Env)(ty:TypeId):Operand->Option (V×Env)
 | .tmp t=>match e.get t with
   | .one (.own d)=>some (.one (.own d),e.vacate ⟨.tmp t,[]⟩)
   | .one a=>match zfx e a with
     |some (a',e')=>some (.one a',e')
     |none=>none
   | .tup as=>match zhm (e.set0 t .dead) as with
     |some (as',e')=>some (.tup as',e')
     |none=>none
   | .agg as=>match zhm (e.set0 t .dead) as with
     |some (as',e')=>some (.agg as',e')
     |none=>none
 | .const v=>match zhc P ty v with
   |some a=>some (.one a,e)
   |none=>none
 | .func f=>some (.one (.fn f []),e)
 | .global _=>none
def A.inner:A->Option D
 | .own d=>some d
 | .ro d=>if d.flat then some d else none
 | .fn f []=>some (.clo f [])
 |_=>none
def zhd:List A->Option (List D)
 | []=>some []
 |a::r=>match a.inner with
  |some d=>match zhd r with
   |some ds=>some (d::ds)
   |none=>none
  |none=>none
def V.inner:V->Option D
 | .one a=>a.inner
 | .agg as=>match zhd as with
   |some ds=>some (.agg ds)
   |none=>none
 | .tup _=>none
def A.inCell:A->Bool
 | .own (.agg _)| .ro (.agg _)=>false
 | .own _| .ro _=>true
 | .fn _ []=>true
 |_=>false
def V.cellsA:V->Option (List A)
 | .one (.ro (.agg ds))=>some (ds.map .ro)
 | .one (.own (.agg ds))=>some (ds.map λd=>if d.flat then .ro d else .own d)
 | .one a=>if a.inCell then some [a]else none
 | .agg as=>some as
 | .tup _=>none
def Operand.isConst:Operand->Bool
 | .const _=>true
 |_=>false
def zif(P:Program)(as bs:List D):List Field->Option Bool
 | []=>some true
 |f::r=>if f.name= "_" then none else match P.underlying f.type,as[f.offset]?,bs[f.offset]? with
  |some .string,some (.str a),some (.str b)=>match zif P as bs r with
   |some q=>some (a.toList==b.toList&&q)
   |none=>none
  |some (.int _),some (.int k a),some (.int k' b)=>if k=k' then match zif P as bs r with
   |some q=>some (a==b&&q)
   |none=>none
   else none
  |_,_,_=>none
def evEq(P:Program)(t:TypeId)(x y:Operand)(a b:D):Option Bool:=
 match P.underlying t,a,b with
 |some .bool,.bool a,.bool b=>some (a==b)
 |some (.pointer _),.nilp,.nilp=>some true
 |some (.interface _),.nili,.nili=>if Operand.isConst x||Operand.isConst y then some true else none
 |some (.interface _),.nili,.iface _ _=>some false
 |some (.interface _),.iface _ _,.nili=>some false
 |some (.struct fs),.agg as,.agg bs=>if !P.stoodInHeld t&& !P.eqGuardType P.depth t then zif P as bs fs.toList else none
 |_,_,_=>none
def zzy(op:BinOp)(k:IntKind)(a b:Int):Option D:=
 match op with
 | .add=>some (.int k (k.wrap (a+b)))
 | .sub=>some (.int k (k.wrap (a-b)))
 | .mul=>some (.int k (k.wrap (a*b)))
 | .quo=>if b=0 then none else some (.int k (k.wrap (a.tdiv b)))
 | .rem=>if b=0 then none else some (.int k (a.tmod b))
 | .and=>some (.int k (k.wrap (BitVec.ofInt k.bits a&&&BitVec.ofInt k.bits b).toNat))
 | .or=>some (.int k (k.wrap (BitVec.ofInt k.bits a|||BitVec.ofInt k.bits b).toNat))
 | .xor=>some (.int k (k.wrap (BitVec.ofInt k.bits a^^^BitVec.ofInt k.bits b).toNat))
 | .andNot=>some (.int k (k.wrap (BitVec.ofInt k.bits a&&& ~~~(BitVec.ofInt k.bits b)).toNat))
 | .eql=>some (.bool (a==b))
 | .neq=>some (.bool (a !=b))
 | .lss=>some (.bool (decide (a<b)))
 | .leq=>some (.bool (decide (a<=b)))
 | .gtr=>some (.bool (decide (a>b)))
 | .geq=>some (.bool (decide (a≥b)))
 |_=>none
def zak:Nat:=9223372036854775807
def z7i(op:BinOp)(a b:ByteArray):Option D:=
 match op with
 | .add=>if a.size+b.size<=zak then some (.str (a++b))else none
 | .eql=>some (.bool (a.toList==b.toList))
 | .neq=>some (.bool (!(a.toList==b.toList)))
 | .lss=>some (.bool (Op.bytesLess a.toList b.toList))
 | .leq=>some (.bool (Op.bytesLess a.toList b.toList||a.toList==b.toList))
 | .gtr=>some (.bool (!(Op.bytesLess a.toList b.toList||a.toList==b.toList)))
 | .geq=>some (.bool (!(Op.bytesLess a.toList b.toList)))
 |_=>none
def z7j(P:Program)(op:BinOp)(t:TypeId)(x y:Operand):D->D->Option D
 | .int k a,.int k' b=>
   match op with
   | .shl=>if b<0 then none else some (.int k (k.wrap (a*2^(min b.toNat k.bits))))
   | .shr=>if b<0 then none else some (.int k (a.fdiv (2^(min b.toNat k.bits))))
   |_=>if k=k' then zzy op k a b else none
 | .str a,.str b=>z7i op a b
 |a,b=>match op with
  | .eql=>match evEq P t x y a b with
    |some r=>some (.bool r)
    |none=>none
  | .neq=>match evEq P t x y a b with
    |some r=>some (.bool (!r))
    |none=>none
  |_=>none
def evUn(op:UnOp):D->Option D
 | .bool b=>match op with
   | .not=>some (.bool !b)
   |_=>none
 | .int k n=>match op with
   | .neg=>some (.int k (k.wrap (0-n)))
   | .xor=>zzy .xor k (if k.signed then-1 else k.max) n
   |_=>none
 |_=>none
def zpf:List D->Option (List UInt8)
 | []=>some []
 | .int .u8 n::r=>match zpf r with
   |some bs=>some (n.toNat.toUInt8::bs)
   |none=>none
 |_=>none
def zbp(s:ByteArray):List D:=s.data.toList.map λb=>.int .u8 b.toNat
def zyb(P:Program)(src dst:TypeId)(d:D):Option D:=
 match P.underlying src,P.underlying dst,d with
 |some (.int _),some (.int k),.int _ n=>some (.int k (k.wrap n))
 |some .string,some .string,.str s=>some (.str s)
 |some (.slice e),some .string,.sl 1 xs=>match P.underlying e with
  |some (.int .u8)=>match zpf xs with
   |some bs=>some (.str ⟨bs.toArray⟩)
   |none=>none
  |_=>none
 |_,_,_=>none
def zj1(P:Program)(src dst:TypeId):Bool:=match P.underlying src,P.underlying dst with
 |some .string,some (.slice e)=>match P.underlying e with
  |some (.int .u8)=>true
  |_=>false
 |_,_=>false
def z2c(P:Program):Nat->TypeId->List Nat
 |0,_=>[]
 |n+1,t=>match P.underlying t with
  |some (.struct fs)=>fs.toList.flatMap λf=>z2c P n f.type
  |some (.array m e)=>(List.range m).flatMap λ_=>z2c P n e
  |some (.slice e)=>[(zbq P e).getD 0]
  |_=>[0]
def zyc:Value->Nat->Option A
 | .slice none 0 0,z=>some (.own (.sl z []))
 |v,_=>match zdr v with
  |some d=>some (.ro d)
  |none=>none
def zf0:List Value->List Nat->Option (List A)
 | [],_=>some []
 |v::vs,zs=>match zyc v (zs.headD 0)with
  |some a=>match zf0 vs zs.tail with
   |some as=>some (a::as)
   |none=>none
  |none=>none
def zfm(P:Program)(t:TypeId):Option (List A):=match P.info? t with
 |some i=>match i.zero with
  |some v=>zf0 v.cells.toList (z2c P 6 t)
  |none=>none
 |none=>none
def z2d(P:Program)(t:TypeId):Option TypeId:=match P.underlying t with
 |some (.slice el)=>match P.info? el with
  |some i=>match i.zero with
   |some (.int .u8 0)=>if i.size==1&&i.bytes==1 then some el else none
   |_=>none
  |none=>none
 |_=>none
def zyd(P:Program)(t:TypeId):Option TypeId:=match P.underlying t with
 |some (.struct fs)=>if fs.size=2 then match fs[1]? with
  |some f=>z2d P f.type
  |none=>none
  else none
 |_=>none
def A.isNilp:A->Bool
 | .ro .nilp=>true
 |_=>false
def zr9:List A->Bool
 | [.own (.sl z [])]=>z==1
 |_=>false
def zmx(u:Option TypeId)(r:List A):List A:=match u with
 |some el=>if zr9 r then [.own (.bs el .empty)]else r
 |none=>r
def zye(t:TypeId)(u:Option TypeId):List A->List A
 | []=>[]
 |a::r=>if a.isNilp then .bnil t::zmx u r else a::r
def fieldAt(P:Program)(s:TypeId)(f:Nat):Option (Nat×TypeId):=match P.underlying s with
 |some (.struct fs)=>match fs[f]? with
  |some x=>some (x.offset,x.type)
  |none=>none
 |_=>none
def zbv(P:Program)(t:TypeId):Bool:=match P.underlying t with
 |some (.struct _)|some (.array _ _)=>true
 |_=>false
def look(l:Loc):A->A
 | .own _=>.view l
 | .selfp=>match l.root with
   | .cell b _=>.ptr b 0
   | .tmp _=>.dead
 | .bnil _=>.ro .nilp
 |a=>a
def zqn(b:Nat):Nat->List A->List A
 |_,[]=>[]
 |o,a::r=>look ⟨.cell b o,[]⟩ a::zqn b (o+1) r
def zzz(l:Loc)(z i o:Nat)(d:D):Option A:=
 if d.flat then some (.ro d)else match d with
  | .sl _ _=>some (.view ⟨l.root,l.path++[(z,i,o)]⟩)
  |_=>none
def zpg(l:Loc)(z i:Nat):Nat->List D->Option (List A)
 |_,[]=>some []
 |o,d::r=>match zzz l z i o d with
  |some a=>match zpg l z i (o+1) r with
   |some as=>some (a::as)
   |none=>none
  |none=>none
def zqo:List A->Option (List D)
 | []=>some []
 | .ro d::r=>match zqo r with
   |some ds=>some (d::ds)
   |none=>none
 |_::_=>none
def zsa(as:List A):V:=match zqo as with
 |some ds=>.one (.ro (.agg ds))
 |none=>.agg as
def zhe(e:Env)(agg:Bool)(n:Nat):A->Option V
 | .ptr b o=>if b<zaf then match e.box b with
   |some cs=>if agg then(if o+n<=cs.length then some (zsa (zqn b o ((cs.drop o).take n)))else none)
    else match cs[o]? with
     |some a=>some (.one (look ⟨.cell b o,[]⟩ a))
     |none=>none
   |none=>none
   else none
 | .rptr ds=>if agg then(if n<=ds.length then some (.one (.ro (.agg (ds.take n))))else none)
   else match ds with
    |d::_=>some (.one (.ro d))
    | []=>none
 | .eptr l z i o=>match e.ownAt l with
   |some (.sl z' xs)=>if z=z' then match xs[i]? with
    |some x=>if agg then(if o+n<=x.cells.length then match zpg l z i o ((x.cells.drop o).take n)with
     |some as=>some (zsa as)
     |none=>none
     else none)
     else match x.cells[o]? with
      |some d=>match zzz l z i o d with
       |some a=>some (.one a)
       |none=>none
      |none=>none
    |none=>none
    else none
   |_=>none
 |_=>none
def zhf(e:Env)(b:Nat):Nat->List A->Env
 |_,[]=>e
 |o,a::r=>
  let e1:=match a with
   | .own _=>e.mapA (A.drop (.cell b o))
   |_=>e
  zhf (e1.setRoot (.cell b o) a) b (o+1) r
def zmy(e:Env)(l:Loc)(z i:Nat):Nat->List D->Env
 |_,[]=>e
 |o,d::r=>zmy (e.setLoc ⟨l.root,l.path++[(z,i,o)]⟩ d) l z i (o+1) r
def zmz(e:Env)(n:Nat)(v:V):A->Option Env
 | .ptr b o=>if b<zaf then match e.box b with
   |some cs=>match v.cellsA with
    |some as=>if as.length=n&&o+n<=cs.length&&as.all A.portable then some (zhf e b o as)else none
    |none=>none
   |none=>none
   else none
 | .eptr l z i o=>match e.ownAt l with
   |some (.sl z' xs)=>match v.inner with
    |some d=>if z=z' then match xs[i]? with
     |some x=>if d.cells.length=n&&o+n<=x.cells.length then some (zmy e l z i o d.cells)else none
     |none=>none
     else none
    |none=>none
   |_=>none
 |_=>none
def zvp(e:Env)(t:Nat):Option Loc:=match e.get t with
 | .one (.own _)=>some ⟨.tmp t,[]⟩
 | .one (.view l)=>some l
 |_=>none
abbrev zal:=FuncId->List A->zar->Option (V×zar)
inductive Lent where
 |box (n b:Nat)
 |row (n:Nat) (l:Loc)
 |read (r:Root)
def zm0:List A->List Lent
 | []=>[]
 | .view l::r=>.read l.root::zm0 r
 |_::r=>zm0 r
def zk2:Nat:=9999
def ya2(n:Nat):Nat:=zat+n
def ya3(n k:Nat):Nat:=zat+50*(n+1)+k
def zcz(e:Env)(n:Nat):List Cap->Nat->Option (List Cap×List Lent)
 | [],_=>some ([],[])
 | .ro d::r,k=>match zcz e n r (k+1)with
   |some (cs,m)=>some (.ro d::cs,m)
   |none=>none
 | .ptr b::r,k=>match zcz e n r (k+1)with
   |some (cs,m)=>some (.ptr (ya3 n k)::cs,.box (ya3 n k) b::m)
   |none=>none
def lend1(e:Env)(n:Nat)(w:Bool)(x:Option Nat):V->Option (A×List Lent)
 | .one (.ptr b o)=>if o=0 then some (.ptr (ya2 n) 0,[.box (ya2 n) b])else none
 | .one (.fn f caps)=>match zcz e n caps 0 with
   |some (cs,m)=>some (.fn f cs,m)
   |none=>none
 | .one (.rptr ds)=>some (.rptr ds,[])
 | .one (.own d)=>match x with
   |some t=>if w then some (.view ⟨.cell (zaf+n) 0,[]⟩,[.row (zaf+n) ⟨.tmp t,[]⟩])else some (.ro d,[.read (.tmp t)])
   |none=>match d with
    | .sl z []=>if w then none else some (.ro (.sl z []),[])
    |_=>none
 | .one (.view l)=>match e.ownAt l with
   |some d=>if w then(if d.isAgg&& !l.path.isEmpty then none else some (.view ⟨.cell (zaf+n) 0,[]⟩,[.row (zaf+n) l]))else some (.ro d,[.read l.root])
   |none=>none
 | .one (.pview l i k)=>match e.ownAt l with
   |some (.sl z xs)=>if w=false/\i<=k/\k<=xs.length then some (.ro (.sl z ((xs.take k).drop i)),[.read l.root])else none
   |_=>none
 | .one (.ro d)=>some (.ro d,[])
 | .agg as=>if w||as.any A.isOwn then none else match datas e as with
   |some ds=>some (.ro (.agg ds),zm0 as)
   |none=>none
 |_=>none
def lend(e:Env)(io:List Nat):Nat->List (V×Option Nat)->Option (List A×List Lent)
 |_,[]=>some ([],[])
 |n,(v,x)::r=>match lend1 e n (io.contains n) x v with
  |some (a,m)=>match lend e io (n+1) r with
   |some (as,m')=>some (a::as,m++m')
   |none=>none
  |none=>none
def zau(e:Env):List Lent->Option zar
 | []=>some []
 | .box n b::r=>match e.box b with
   |some cs=>if cs.all A.portable then match zau e r with
    |some m=>some ((n,cs)::m)
    |none=>none
    else none
   |none=>none
 | .read _::r=>zau e r
 | .row n l::r=>match e.ownAt l with
   |some d=>match zau e r with
    |some m=>some ((n,[.own d])::m)
    |none=>none
   |none=>none
def Lent.apart:Lent->Lent->Bool
 | .box n b,.box n' b' =>b !=b' &&n !=n'
 | .row n l,.row n' l' =>l.root !=l'.root&&n !=n'
 | .box n b,.row n' l=> !l.root.inBox b&&n !=n'
 | .row n l,.box n' b=> !l.root.inBox b&&n !=n'
 | .read r,.box _ b=> !r.inBox b
 | .box _ b,.read r=> !r.inBox b
 | .read r,.row _ l=>r !=l.root
 | .row _ l,.read r=>r !=l.root
 | .read _,.read _=>true
def Lent.okId:Lent->Bool
 | .box n b=>decide (zat<=n)&&decide (n<zk2)&&decide (b<zaf)
 | .row n _=>decide (zaf<=n)
 | .read _=>true
def za5:List Lent->Bool
 | []=>true
 |a::r=>a.okId&&r.all (Lent.apart a)&&za5 r
def Lent.isRead:Lent->Bool
 | .read _=>true
 |_=>false
def zei(e:Env):List Lent->Bool
 | []=>true
 | .row _ l::r=>(match e.ownAt l with|some d=> !d.isAgg||l.path.isEmpty|none=>false)&&zei e r
 |_::r=>zei e r
def zm1:D->D
 | .agg ds=>.agg (ds.map λ_=>.hole)
 |_=>.hole
def zph:Option D->D
 |some d=>zm1 d
 |none=>.hole
def A.killIn(b:Nat):A->A
 | .view l=>if l.root.inBox b then .dead else .view l
 | .eptr l z i o=>if l.root.inBox b then .dead else .eptr l z i o
 | .pview l i k=>if l.root.inBox b then .dead else .pview l i k
 |a=>a
def zbz(e:Env):List Lent->Env
 | []=>e
 | .box _ b::r=>match e.box b with
   |some cs=>zbz ((e.mapA (A.killIn b)).setBox b (cs.map λ_=>.dead)) r
   |none=>zbz e r
 | .row _ l::r=>zbz (e.setLoc l (zph (e.ownAt l))) r
 | .read _::r=>zbz e r
def zbs(e:Env):List Lent->zar->Option Env
 | [],_=>some e
 | .box n b::r,m=>match zbe n m with
   |some cs=>match e.box b with
    |some cs0=>if cs.length=cs0.length then zbs ((e.mapA (A.killIn b)).setBox b cs) r m else none
    |none=>none
   |none=>none
 | .row n l::r,m=>match zbe n m with
   |some [.own d]=>match d with
    | .agg _=>none
    |d=>match l.path with
     | []=>zbs ((e.mapA (A.drop l.root)).setRoot l.root (.own d)) r m
     |_=>zbs (e.setLoc l d) r m
   |some [.dead]=>zbs e r m
   |_=>none
 | .read _::r,m=>zbs e r m
def zd5(e:Env)(m:List Lent)(bx:zar):Option Env:=zbs (zbz e m) m bx
def A.flat:A->Bool
 | .ro d=>d.flat
 | .fn _ (_::_)=>false
 | .own _| .fn _ []| .selfp| .undef| .dead=>true
 |_=>false
def ze1:zar->Bool
 | []=>true
 |(_,cs)::r=>cs.all A.flat&&ze1 r
def V.flatRet:V->Bool
 | .one a=>a.flat
 | .tup as=>as.all A.flat
 | .agg as=>as.all A.flat
def A.leaves:A->Bool
 | .ro _| .own _=>true
 | .fn _ []=>true
 |_=>false
def V.leavesV:V->Bool
 | .one a=>a.leaves
 | .tup as=>as.all A.leaves
 | .agg _=>false
def zbd(P:Program)(e:Env)(ty:TypeId):Operand->Option V
 | .tmp t=>some (e.get t)
 | .const v=>match zhc P ty v with
   |some a=>some (.one a)
   |none=>none
 | .func f=>some (.one (.fn f []))
 | .global _=>none
def za9(P:Program)(e:Env):List (Operand×TypeId)->Option (List V)
 | []=>some []
 |(x,ty)::r=>match zbd P e ty x with
  |some v=>match za9 P e r with
   |some vs=>some (v::vs)
   |none=>none
  |none=>none
def zcq(e:Env):Operand->Env
 | .tmp t=>match zvp e t with
   |some l=>e.freeze l.root
   |none=>e
 |_=>e
def zjf:Option V->Option V
 |some (.one (.ro (.clo f ds)))=>some (.one (.fn f (ds.map .ro)))
 |x=>x
theorem zk3(f:FuncId)(caps:List Cap):zjf (some (.one (.fn f caps)))=some (.one (.fn f caps)):=(rfl)
theorem zvq(f:FuncId)(ds:List D):zjf (some (.one (.ro (.clo f ds))))=some (.one (.fn f (ds.map .ro))):=(rfl)
def zz0:List Cap->Option (List D)
 | []=>some []
 | .ro d::r=>match zz0 r with
   |some ds=>some (d::ds)
   |none=>none
 | .ptr _::_=>none
def fnA(f:FuncId):List Cap->A
 | []=>.fn f []
 |c::r=>match zz0 (c::r)with
  |some ds=>.ro (.clo f ds)
  |none=>.fn f (c::r)
def zcj(caps:List Cap):List (V×Option Nat):=caps.map λ| .ptr b=>(.one (.ptr b 0),none)| .ro d=>(.one (.ro d),none)
def zi2:Operand->Option Nat
 | .tmp t=>some t
 |_=>none
def zi7(P:Program)(io:FuncId->List Nat)(e:Env)(f:FuncId)(caps:List Cap)(args:List Operand)(tys:List TypeId):Option (List A×List Lent×zar):=
 if args.length=tys.length then match za9 P e (args.zip tys)with
  |some vs=>match lend e (io f) 0 (vs.zip (args.map zi2)++zcj caps)with
   |some (as,m)=>if za5 m&&zei e m then match zau e m with
    |some bx=>some (as,m,bx)
    |none=>none
    else none
   |none=>none
  |none=>none
 else none
def zox(m:List Lent)(r:V)(bx':zar):Bool:=r.leavesV&&(!m.any Lent.isRead||(r.flatRet&&ze1 bx'))
def zck(P:Program)(io:FuncId->List Nat)(call:zal)(e:Env)(f:FuncId)(caps:List Cap)(args:List Operand)(tys:List TypeId):Option (V×Env):=
 match zi7 P io e f caps args tys with
 |some (as,m,bx)=>match call f as bx with
  |some (r,bx')=>if zox m r bx' then match zd5 e m bx' with
   |some e' =>some (r,e')
   |none=>none
   else none
  |none=>none
 |none=>none
def zig(e:Env):List A->Env
 | []=>e
 | .view l::r=>zig (e.freeze l.root) r
 |_::r=>zig e r
def zvr(e:Env)(t:Nat)(as:List A):Env:=match zhm (e.set0 t .dead) as with
 |some (as',e')=>match zhd as' with
  |some ds=>if t<e'.size then e'.set t (.one (.own (.agg ds)))else e
  |none=>e
 |none=>e
def zj2(e:Env):Operand->Env
 | .tmp t=>match e.get t with
   | .agg as=>zvr e t as
   |_=>e
 |_=>e
def zer(io:List Nat)(e:Env):Nat->List Operand->Env
 |_,[]=>e
 |n,x::r=>zer io (if io.contains n then zj2 e x else match x with
  | .tmp t=>match e.get t with
    | .one (.own _)=>e.freeze (.tmp t)
    | .one (.view l)=>e.freeze l.root
    | .agg as=>zig e as
    |_=>e
  |_=>e) (n+1) r
def zf1(P:Program)(io:FuncId->List Nat)(call:zal)(e:Env)(f:FuncId)(caps:List Cap)(args:List Operand)(tys:List TypeId):Option (V×Env):=
 match zi7 P io e f caps args tys with
 |some (as,m,bx)=>match call f as bx with
  |some (r,bx')=>if zox m r bx' then match zd5 e m bx' with
   |some e' =>some (r,e')
   |none=>none
   else zck P io call (zer (io f) e 0 args) f caps args tys
  |none=>none
 |none=>zck P io call (zer (io f) e 0 args) f caps args tys
def zas(e:Env)(dst:Option Nat)(v:V):Option Env:=match dst with
 |some d=>if d<e.size then some (e.set d v)else none
 |none=>some e
def zfn(io:FuncId->List Nat)(f:FuncId):Bool:=(io f).contains 999
def z2e(io:FuncId->List Nat)(f:FuncId):Bool:=(io f).contains 997
def A.isRo:A->Bool
 | .ro _=>true
 |_=>false
def zqp(e:Env)(dst:Option Nat)(cs:List A):Option Env:=match dst with
 |some d=>if d<zat&&cs.all A.isRo then zas (e.newBox d cs) (some d) (.one (.ptr d 0))else none
 |none=>none
def zm2(dst:Option Nat):Option (V×Env)->Option Env
 |some (v,e)=>match dst with
  |some d=>match zas e (some d) v with
   |some e2=>some (e2.freeze (.tmp d))
   |none=>none
  |none=>none
 |none=>none
def zpi(P:Program)(f:FuncId)(n:Nat)(T:TypeId)(l:List (Nat×FuncId)):Prop:=
 (∃fn,P.funcs[f]? =some fn/\fn.body.isSome=true/\fn.name≠ "runtime.NumGoroutine")/\
 ∀(vals:Array Value) (k0:Value) (w:World) (I:Nat->Value->World->Prop),vals.size=n->
  I 0 k0 (w.alloc (.cells vals T))->
  (∀i k w',I i k w' ->w'.heap[w.heap.size]? =some (.cells vals T (0,0)))->
  (∀i p,l[i]? =some p-> ∀k w',I i k w' ->Calls P p.2 #[vals.getD p.1 undef,k] w' (λen w'' => ∃v,en=.returned v/\I (i+1) v w''))->
  Calls P f #[.agg vals,k0] w (λen w' => ∃v,en=.returned v/\I l.length v w')
def zm3:List Nat->List (Nat×FuncId)
 |i::g::r=>(i,g)::zm3 r
 |_=>[]
def zch(io:FuncId->List Nat)(call:zal)(t:Nat):List (Nat×FuncId)->Env->D->Option (D×Env)
 | [],e,d=>some (d,e)
 |(i,g)::r,e,d=>match e.get t with
  | .agg as=>match as[i]? with
    |some (.view l)=>match lend e (io g) 0 [(.one (.view l),none),(.one (.ro d),none)]with
     |some (as',m)=>if za5 m&&zei e m then match zau e m with
      |some bx=>match call g as' bx with
       |some (.one (.ro d'),bx')=>if zox m (.one (.ro d')) bx' then match zd5 e m bx' with
        |some e' =>zch io call t r e' d'
        |none=>none
        else none
       |_=>none
      |none=>none
      else none
     |none=>none
    |_=>none
  |_=>none
open Classical in
noncomputable def zdf(P:Program)(io:FuncId->List Nat)(call:zal)(e:Env)(f:FuncId)(args:List Operand)(dst:Option Nat):List Nat->Option Env
 |n::T::r=>match args with
  | [.tmp t,y]=>match e.get t with
    | .agg as=>if as.length=n/\zpi P f n T (zm3 r)then match zbd P e 0 y with
      |some (.one (.ro d))=>match zch io call t (zm3 r) e d with
       |some (d',e')=>zas e' dst (.one (.ro d'))
       |none=>none
      |_=>none
      else none
    |_=>none
  |_=>none
 |_=>none
noncomputable def zfo(P:Program)(io:FuncId->List Nat)(call:zal)(e:Env)(f:FuncId)(caps:List Cap)(args:List Operand)(tys:List TypeId)(dst:Option Nat):Option Env:=
 if (io f).contains 995 then match caps with
  | []=>zdf P io call e f args dst ((io f).drop 2)
  |_=>none
 else match zi7 P io e f caps args tys with
 |some (as,[],[])=>match call f as []with
  |some (.agg cs,[])=>zqp e dst cs
  |some (.one (.own _),[])=>zm2 dst (zck P io call e f caps args tys)
  |_=>none
 |_=>none
theorem z2f{P:Program}{io:FuncId->List Nat}{call:zal}{e:Env}{f:FuncId}{caps:List Cap}{args:List Operand}{tys:List TypeId}{x:V×Env}(h:zf1 P io call e f caps args tys=some x):
 zck P io call e f caps args tys=some x∨zck P io call (zer (io f) e 0 args) f caps args tys=some x:=by
 unfold zf1 at h;split at h
 ·rename_i as m bx hp;split at h
  ·rename_i r bx' hc;split at h
   ·rename_i hok;refine .inl ?_;unfold zck;simp only[hp,hc,hok,if_true];exact h
   ·exact .inr h
  ·cases h
 ·exact .inr h
def zag:Nat:=2^40
def zcr(P:Program)(ty:TypeId):Env->List Operand->Option (List D×Env)
 |e,[]=>some ([],e)
 |e,x::r=>match take P e ty x with
  |some (v,e')=>match v.inner with
   |some d=>match zcr P ty e' r with
    |some (ds,e'')=>some (d::ds,e'')
    |none=>none
   |none=>none
  |none=>none
def zk4:Nat->List (Nat×Operand)->Bool
 |_,[]=>true
 |i,(j,_)::r=>i==j&&zk4 (i+1) r
def zcs{α:Type}(l:List α):Nat->List α->List α
 |_,[]=>l
 |o,a::r=>zcs (l.set o a) (o+1) r
def zhn(P:Program)(s:TypeId)(j:Nat):Option (Nat×TypeId):=match P.underlying s with
 |some (.array _ el)=>match zbq P el with
  |some z=>some (j*z,el)
  |none=>none
 |_=>fieldAt P s j
def zsb(P:Program)(s:TypeId):Env->List A->List (Nat×Operand)->Option (List A×Env)
 |e,cs,[]=>some (cs,e)
 |e,cs,(i,x)::r=>match zhn P s i with
  |some (off,ty)=>match take P e ty x with
   |some (v,e')=>match v.cellsA with
    |some as=>if zbq P ty=some as.length&&off+as.length<=cs.length&&as.all A.portable then zsb P s e' (zcs cs off as) r else none
    |none=>none
   |none=>none
  |none=>none
def roOp(P:Program)(e:Env)(ty:TypeId):Operand->Option A
 | .tmp t=>match e.get t with
   | .one (.ro d)=>some (.ro d)
   |_=>none
 | .const v=>zhc P ty v
 |_=>none
def zlv(P:Program)(s:TypeId)(e:Env):List A->List (Nat×Operand)->Option (List A)
 |cs,[]=>some cs
 |cs,(i,x)::r=>match zhn P s i with
  |some (off,ty)=>match roOp P e ty x with
   |some v=>match(V.one v).cellsA with
    |some as=>if zbq P ty=some as.length&&off+as.length<=cs.length&&as.all A.portable then zlv P s e (zcs cs off as) r else none
    |none=>none
   |none=>none
  |none=>none
theorem zsc{P:Program}{e:Env}{ty:TypeId}{x:Operand}{v:A}(h:roOp P e ty x=some v):take P e ty x=some (.one v,e):=by
 cases x with
 |tmp t=>
  simp only[roOp]at h;split at h
  ·rename_i d hd;cases h;simp only[take,hd,zfx]
  ·cases h
 |const c=>
  simp only[roOp]at h;simp only[take,h]
 |_=>cases h
theorem zsd{P:Program}{s:TypeId}{e:Env}:∀{parts:List (Nat×Operand)} {cs as:List A},zlv P s e cs parts=some as->zsb P s e cs parts=some (as,e)
 | [],cs,as,h=>by cases h;rfl
 |(i,x)::r,cs,as,h=>by
  unfold zlv at h;unfold zsb;split at h
  ·rename_i off ty hp;split at h
   ·rename_i v hv;rw[zsc hv];dsimp only;split at h
    ·rename_i as' ha;split at h
     ·rename_i hc;rw[if_pos hc];exact zsd h
     ·cases h
    ·cases h
   ·cases h
  ·cases h
def zbo(n:Nat)(lo hi:Option D):Option (Nat×Nat):=
 match hi with
 |some (.int _ h)=>if 0<=h&&h<=(n:Int)then match lo with
  |some (.int _ l)=>if 0<=l&&l<=h then some (l.toNat,h.toNat)else none
  |none=>some (0,h.toNat)
  |_=>none
  else none
 |none=>match lo with
  |some (.int _ l)=>if 0<=l&&l<=(n:Int)then some (l.toNat,n)else none
  |none=>some (0,n)
  |_=>none
 |_=>none
def rdO(P:Program)(e:Env)(ty:TypeId):Option Operand->Option (Option D)
 |none=>some none
 |some x=>match rd P e ty x with
  |some d=>some (some d)
  |none=>none
def A.live(e:Env):A->Bool
 | .ptr b _=>decide (b<zaf)&&(e.box b).isSome
 | .eptr l z i _=>match e.ownAt l with
   |some (.sl z' xs)=>decide (z=z')&&decide (i<xs.length)
   |_=>false
 | .rptr _=>true
 |_=>false
def A.move(off:Nat):A->Option A
 | .ptr b o=>some (.ptr b (o+off))
 | .eptr l z i o=>some (.eptr l z i (o+off))
 | .rptr ds=>some (.rptr (ds.drop off))
 |_=>none
def zz1:D->Option Bool
 | .snil=>some true
 | .sne=>some false
 | .sl _ (_::_)=>some false
 |_=>none
def z2g:Operand->Bool
 | .const (.slice none 0 0)=>true
 |_=>false
def isSl(P:Program)(t:TypeId):Bool:=match P.underlying t with
 |some (.slice _)=>true
 |_=>false
def z7k(P:Program)(op:BinOp)(t:TypeId)(y:Operand)(a:D):Option D:=if z2g y&&isSl P t then match op with
    | .eql=>match zz1 a with
      |some b=>some (.bool b)
      |none=>none
    | .neq=>match zz1 a with
      |some b=>some (.bool !b)
      |none=>none
    |_=>none
 else none
def mxI(a b:Int):Int:=if a<=b then b else a
def zbw(P:Program)(e:Env)(ty:TypeId):Op->Option V
 | .binOp op xt x y yt=>match rd P e xt x with
   |some a=>match z7k P op xt y a with
    |some d=>some (.one (.ro d))
    |none=>match rd P e yt y with
     |some b=>match z7j P op xt x y a b with
      |some d=>some (.one (.ro d))
      |none=>none
     |none=>none
   |none=>none
 | .unOp op xt x=>match rd P e xt x with
   |some a=>match evUn op a with
    |some d=>some (.one (.ro d))
    |none=>none
   |none=>none
 | .convert s d x=>match rd P e s x with
   |some a=>match zyb P s d a with
    |some r=>some (.one (.ro r))
    |none=>none
   |none=>none
 | .pick c a b=>match rd P e 0 c with
   |some (.bool t)=>match(if t then rd P e ty a else rd P e ty b)with
    |some d=>if d.flat then some (.one (.ro d))else none
    |none=>none
   |_=>none
 | .nilCheck (.tmp t)=>match e.get t with
   | .one a=>if a.live e then some (.one a)else none
   |_=>none
 | .fieldAddr s (.tmp t) f=>match fieldAt P s f with
   |some (off,ft)=>match zbq P ft with
    |some (_+1)=>match e.get t with
     | .one a=>if a.live e then(match a.move off with
       |some a' =>some (.one a')
       |none=>none)else none
     |_=>none
    |_=>none
   |none=>none
 | .indexAddr t (.tmp x) i=>match rd P e 0 i with
   |some (.int _ n)=>match P.underlying t with
    |some (.slice _)=>match zOf P t with
     |some z=>match e.get x with
      | .one (.ro (.sl z' xs))=>if z=z' &&0<=n then match xs[n.toNat]? with
        |some y=>some (.one (.rptr y.cells))
        |none=>none
        else none
      | .one (.own (.sl z' xs))=>if z=z' &&0<=n&&n<(xs.length:Int)then some (.one (.eptr ⟨.tmp x,[]⟩ z n.toNat 0))else none
      | .one (.view l)=>match e.ownAt l with
        |some (.sl z' xs)=>if z=z' &&0<=n&&n<(xs.length:Int)then some (.one (.eptr l z n.toNat 0))else none
        |_=>none
      |_=>none
     |none=>none
    |some (.array m el)=>match zbq P el with
     |some (z+1)=>match e.get x with
      | .one a=>if a.live e&&decide (0<=n)&&decide (n<(m:Int))then(match a.move (n.toNat*(z+1))with
        |some a' =>some (.one a')
        |none=>none)else none
      |_=>none
     |_=>none
    |_=>none
   |_=>none
 | .index t x i=>match rd P e 0 i with
   |some (.int _ n)=>match rd P e t x with
    |some (.str s)=>match P.underlying t with
     |some .string=>if 0<=n then match s.data[n.toNat]? with
      |some b=>some (.one (.ro (.int .u8 b.toNat)))
      |none=>none
      else none
     |_=>none
    |some (.agg ds)=>match P.underlying t with
     |some (.array m el)=>if zbq P el=some 1&& !zbv P el&&0<=n&&n<(m:Int)then match ds[n.toNat]? with
      |some d=>if d.flat then some (.one (.ro d))else none
      |none=>none
      else none
     |_=>none
    |_=>none
   |_=>none
 | .field s x f=>match rd P e s x with
   |some (.agg ds)=>match fieldAt P s f with
    |some (off,ft)=>if zbq P ft=some 1&& !zbv P ft then match ds[off]? with
     |some d=>if d.flat then some (.one (.ro d))else none
     |none=>none
     else none
    |none=>none
   |_=>none
 | .load t (.tmp a)=>match e.get a with
   | .one p=>match zbq P t with
     |some n=>zhe e (zbv P t) n p
     |none=>none
   |_=>none
 | .makeInterface t x=>match P.underlying t with
   |some (.interface _)=>none
   |some _=>match rd P e t x with
    |some d=>if d.flat then some (.one (.ro (.iface t d)))else none
    |none=>none
   |none=>none
 | .call c=>match c.callee,c.args.toList,c.argTypes.toList with
   | .builtin .len,[x],[t]=>match rd P e t x with
     |some (.str s)=>match P.underlying t with
      |some .string=>some (.one (.ro (.int .i64 s.size)))
      |_=>none
     |some (.sl _ xs)=>match P.underlying t with
      |some (.slice _)=>some (.one (.ro (.int .i64 xs.length)))
      |_=>none
     |_=>none
   | .builtin .min,[x,y],[t,u]=>match rd P e t x,rd P e u y with
     |some (.int k a),some (.int k' b)=>if k=k' then some (.one (.ro (.int k (if a<=b then a else b))))else none
     |_,_=>none
   | .builtin .max,[x,y],[t,u]=>match rd P e t x,rd P e u y with
     |some (.int k a),some (.int k' b)=>if k=k' then some (.one (.ro (.int k (if a<=b then b else a))))else none
     |_,_=>none
   | .builtin .max,[x,y,x3,x4,x5],[t,u,t3,t4,t5]=>match rd P e t x,rd P e u y,rd P e t3 x3,rd P e t4 x4,rd P e t5 x5 with
     |some (.int k a),some (.int _ b),some (.int _ c),some (.int _ d),some (.int _ f)=>some (.one (.ro (.int k (mxI (mxI (mxI (mxI a b) c) d) f))))
     |_,_,_,_,_=>none
   |_,_,_=>none
 |_=>none
def zm4(P:Program)(e:Env):List Operand->Option (List Cap)
 | []=>some []
 |x::r=>match zbd P e 0 x,zm4 P e r with
  |some (.one (.ptr b 0)),some cs=>some (.ptr b::cs)
  |some (.one (.ro d)),some cs=>some (.ro d::cs)
  |_,_=>none
def zc0(P:Program)(t:TypeId):Bool:=match P.underlying t with
 |some (.struct fs)=>fs.toList.all λf=>(P.info? f.type).isSome
 |some (.array _ el)=>(P.info? el).isSome
 |_=>false
def z7l(P:Program)(el:TypeId):Option D:=match zfm P el with
 |some as=>match zhd as with
  |some ds=>if zbv P el then some (.agg ds)else match ds with
   | [d]=>some d
   |_=>none
  |none=>none
 |none=>none
def zem(P:Program)(e:Env)(dst:Option Nat)(t:TypeId)(x:Operand)(z:Nat)(ys:List D):Option Env:=
 match take P e t x with
 |some (.one (.own (.sl z' xs)),e2)=>if z' =z&&xs.length+ys.length<=zag then zas e2 dst (.one (.own (.sl z (xs++ys))))else none
 |_=>none
def z2h(P:Program)(t:TypeId):Bool:=match P.underlying t with
 |some .string=>true
 |_=>false
def zqq(P:Program)(_:Env)(dst:Option Nat)(t:TypeId)(s:ByteArray):Option (V×Env)->Option Env
 |some (.one (.own (.bs el b)),e2)=>if z2d P t=some el&&b.size+s.size<=zag then zas e2 dst (.one (.own (.bs el (b++s))))else none
 |_=>none
def A.isBs:A->Bool
 | .own (.bs _ _)=>true
 |_=>false
def V.isBs:V->Bool
 | .one a=>a.isBs
 |_=>false
def ya4:Option (V×Env)->Bool
 |some (v,_)=>v.isBs
 |none=>false
def zmp(P:Program)(e:Env)(dst:Option Nat)(t:TypeId)(x:Operand)(s:ByteArray):Option Env:=
 if ya4 (take P e t x)then zqq P e dst t s (take P e t x)else zem P e dst t x 1 (zbp s)
def zm5(e:Env)(x y:Operand):Bool:=match x,y with
 | .tmp a,.tmp b=>match e.get a,e.get b with
   | .one (.view l),.one (.view l')=>match e.ownAt l with
     |some _=>l.root==l'.root&&l.path.isEmpty&&l'.path.isEmpty
     |none=>false
   |_,_=>false
 |_,_=>false
def zj3(P:Program)(e:Env)(dst:Option Nat)(t:TypeId)(x:Operand)(z:Nat):Option Env:=match take P e t x with
 |some (.one (.own (.sl z' xs)),e2)=>if decide (z' =z)&&decide (xs.length+xs.length<=zag)&& !xs.isEmpty then zas e2 dst (.one (.ro (.sl z (xs++xs))))else none
 |_=>none
def zih(P:Program)(e:Env)(dst:Option Nat)(t u:TypeId)(x y:Operand):Option Env:=
 match zOf P t with
 |some z=>match rd P e u y with
  |some (.sl z' ys)=>if z' =z&&zOf P u=some z then
   (if flats ys then zem P e dst t x z ys
    else if zm5 e x y then zj3 P e dst t x z
    else match take P e u y with
     |some (.one (.own (.sl z2 ys')),e')=>if z2=z then zem P e' dst t x z ys' else none
     |_=>none)
   else none
  |some (.str s)=>if z=1&&z2h P u then zmp P e dst t x s else none
  |some .sne=>if zOf P u=some z then zem P e dst t x z []else none
  |_=>none
 |none=>none
def z2i:A->Option Loc
 | .view l=>match l.root with
   | .cell _ _=>some l
   | .tmp _=>none
 |_=>none
def zgp(e:Env)(x:Operand):Option Loc:=match x with
 | .tmp t=>match e.get t with
   | .one a=>z2i a
   |_=>none
 |_=>none
def zho(P:Program)(e:Env)(t:TypeId)(x:Operand)(lo hi:Option Operand)(pl:Loc):Option V:=match rdO P e 0 lo,rdO P e 0 hi with
 |some l,some h=>match rd P e t x with
  |some (.sl z xs)=>if zOf P t=some z then match zbo xs.length l h with
   |some (i,j)=>some (.one (.pview pl i j))
   |none=>none
   else none
  |_=>none
 |_,_=>none
def Env.dropBox(e:Env)(b:Nat):Env:={e.mapA (A.killBox b)with boxes:=λb' =>if b' =b then none else e.boxes b'}
def ya5(e:Env):Operand->Option Nat
 | .tmp t=>match e.get t with
   | .one (.ptr b 0)=>some b
   |_=>none
 |_=>none
def zvs(e:Env)(m:Nat)(b:Nat):Option (List D):=if b<zaf then match e.box b with
 |some cs=>match zqo cs with
  |some ds=>if ds.length=m&&ds.all (λd=>d.flat&& !d.isAgg)then some ds else none
  |none=>none
 |none=>none
 else none
def zii(P:Program)(e:Env)(dst:Option Nat)(t:TypeId)(x:Operand)(l h:Option D):Option Env:=match P.underlying t,ya5 e x with
 |some (.array m el),some b=>if zbq P el=some 1 then match zvs e m b with
  |some ds=>match zbo m l h with
   |some (i,j)=>zas (e.dropBox b) dst (.one (.ro (.sl 1 ((ds.take j).drop i))))
   |none=>none
  |none=>none
  else none
 |_,_=>none
noncomputable def evOp(P:Program)(io:FuncId->List Nat)(call:zal)(e:Env)(o:Oper):Option Env:=
 match o.op with
 | .move x=>match x with
   | .tmp t=>match e.get t with
     | .one (.own _)=>zas e o.dst (.one (.view ⟨.tmp t,[]⟩))
     | .one a=>zas e o.dst (.one a)
     | .tup as=>if as.all A.isRo then zas e o.dst (.tup as)else match take P e o.type x with
       |some (v,e')=>zas e' o.dst v
       |none=>none
     |_=>match take P e o.type x with
      |some (v,e')=>zas e' o.dst v
      |none=>none
   |x=>match take P e o.type x with
    |some (v,e')=>zas e' o.dst v
    |none=>none
 | .assign x=>match take P e o.type x with
   |some (v,e')=>zas e' o.dst v
   |none=>none
 | .extract (.tmp t) i=>match e.get t with
   | .tup as=>match as[i]? with
     |some a=>if a.isRo then zas e o.dst (.one a)else match o.dst with
      |some d=>if d=t then none else zas (e.set0 t (.tup (as.set i .dead))) (some d) (.one a)
      |none=>none
     |none=>none
   |_=>none
 | .alloc t=>match o.dst with
   |some d=>match zfm P t with
    |some cs=>if d<zat&&cs.all A.portable then zas (e.newBox d (zye t (zyd P t) cs)) (some d) (.one (.ptr d 0))else none
    |none=>none
   |none=>none
 | .box t x=>match o.dst with
   |some d=>match take P e t x with
    |some (v,e')=>match v.cellsA with
     |some cs=>if zbq P t=some cs.length&&d<zat&&cs.all A.portable then zas (e'.newBox d cs) (some d) (.one (.ptr d 0))else none
     |none=>none
    |none=>none
   |none=>none
 | .store t (.tmp a) x=>if o.dst.isNone then match zbq P t,take P e t x with
   |some n,some (v,e')=>match e'.get a with
    | .one p=>zmz e' n v p
    |_=>none
   |_,_=>none
   else none
 | .buildSlice t n parts=>match P.underlying t with
   |some (.slice el)=>match zhl P el with
    |some z=>if zk4 0 parts.toList&&parts.size=n&&n*z<=1000 then match zcr P el e (parts.toList.map (·.2))with
     |some (ds,e')=>if ds.all (λd=>d.cells.length=z)then zas e' o.dst (.one (.own (.sl z ds)))else none
     |none=>none
     else none
    |none=>none
   |_=>none
 | .build t parts=>match zfm P t with
   |some cs=>if zc0 P t&&cs.all A.portable then match zsb P t e cs parts.toList with
    |some (as,e')=>zas e' o.dst (zsa as)
    |none=>none
    else none
   |none=>none
 | .makeSlice t n c=>match P.underlying t with
   |some (.slice el)=>match zhl P el,z7l P el,rd P e 0 n,rd P e 0 c with
    |some z,some d,some (.int _ l),some (.int _ cp)=>if 0<=l&&l<=cp&&cp<=(zag:Int)&&d.cells.length=z then
     zas e o.dst (.one (.own (.sl z (List.replicate l.toNat d))))else none
    |_,_,_,_=>none
   |_=>none
 | .slice t x lo hi mx=>match mx with
   |some _=>none
   |none=>match zgp e x with
    |some pl=>match zho P e t x lo hi pl with
     |some v=>zas e o.dst v
     |none=>none
    |none=>match rdO P e 0 lo,rdO P e 0 hi with
     |some l,some h=>match rd P e t x with
      |some (.str s)=>match P.underlying t with
       |some .string=>match zbo s.size l h with
        |some (i,j)=>zas e o.dst (.one (.ro (.str (s.extract i j))))
        |none=>none
       |_=>none
      |some (.sl z xs)=>if zOf P t=some z then match zbo xs.length l h with
       |some (i,j)=>zas (zcq e x) o.dst (.one (.ro (.sl z ((xs.take j).drop i))))
       |none=>none
       else none
      |none=>zii P e o.dst t x l h
      |_=>none
     |_,_=>none
 | .makeFunc (.func f) first captured=>if z2e io f then zas e o.dst (.one (.own .hole))else if first.size=0 then match zm4 P e captured.toList with
   |some caps=>zas e o.dst (.one (fnA f caps))
   |none=>match zcr P 0 e captured.toList with
    |some (ds,e')=>zas e' o.dst (.one (.own (.clo f ds)))
    |none=>none
   else none
 | .call c=>match c.callee with
   | .builtin .append=>match c.args.toList,c.argTypes.toList with
     | [x,y],[t,u]=>zih P e o.dst t u x y
     |_,_=>none
   | .builtin _=>match zbw P e o.type o.op with
     |some v=>zas e o.dst v
     |none=>none
   | .value f=>match zjf (zbd P e 0 f)with
     |some (.one (.fn f caps))=>if zfn io f then zfo P io call e f caps c.args.toList c.argTypes.toList o.dst else match zf1 P io call e f caps c.args.toList c.argTypes.toList with
      |some (v,e')=>zas e' o.dst v
      |none=>none
     |_=>none
   | .invoke ..=>none
 | .convert s d x=>match zj1 P s d,rd P e s x with
   |true,some (.str s)=>if s.size<=zak then zas e o.dst (.one (.own (.sl 1 (zbp s))))else none
   |_,_=>match zbw P e o.type o.op with
    |some v=>zas e o.dst v
    |none=>none
 |op=>match zbw P e o.type op with
  |some v=>zas e o.dst v
  |none=>none
def zk5(ops:List Oper)(e:Env)(o:Oper):Option Bool:=match o.guard with
 |none=>some true
 |some (j,want)=>match ops[j]? with
  |some oj=>match oj.dst with
   |some d=>match e.get d with
    | .one (.ro (.bool b))=>some (b==want)
    | .one .undef=>some false
    |_=>none
   |none=>none
  |none=>none
noncomputable def ydd(P:Program)(io:FuncId->List Nat)(call:zal)(ops:List Oper)(o:Oper)(e:Env):Option Env:=
 match zk5 ops e o with
 |some true=>evOp P io call e o
 |some false=>zas e o.dst .undef
 |none=>none
inductive Ex where
 |n|x (id:Nat)|r
 deriving Inhabited
abbrev Res:=Option (Ex×Env)
abbrev zj4:=(Env->Res)->Env->Res
def za6(o:Op):List Nat:=o.operands.toList.filterMap λ| .tmp t=>some t|_=>none
def zlw(k:Env->Res):Ex×Env->Res
 |(.n,e)=>k e
 |(x,e)=>some (x,e)
def zhp(id:Nat):Ex×Env->Res
 |(.x i,e)=>if i=id then some (.n,e)else some (.x i,e)
 |(x,e)=>some (x,e)
def zj5(e:Env):Res:=some (.n,e)
def iter(f:Env->Res):Nat->Env->Res
 |0,_=>none
 |n+1,e=>match f e with
  |some (.n,e')=>iter f n e'
  |r=>r
def ros:List A->Option (List D)
 | []=>some []
 | .ro d::r=>match ros r with
   |some ds=>some (d::ds)
   |none=>none
 |_=>none
def z2j(as:List A):Option A:=
 if as.any A.isOwn then match zhd as with
  |some ds=>some (.own (.agg ds))
  |none=>none
 else match ros as with
  |some ds=>some (.ro (.agg ds))
  |none=>none
def zm6(P:Program)(e:Env):ResultVar->TypeId->Option (A×Env)
 | .tmp t,ty=>match take P e ty (.tmp t)with
   |some (.one a,e')=>some (a,e')
   |some (.agg as,e')=>match z2j as with
    |some a=>some (a,e')
    |none=>none
   |_=>none
 | .cell t ct,_=>match e.get t with
   | .one p=>match zbq P ct with
     |some n=>match zhe e (zbv P ct) n p with
      |some (.one a)=>zfx e a
      |some (.agg as)=>match zhm e as with
       |some (as',e')=>match z2j as' with
        |some a=>some (a,e')
        |none=>none
       |none=>none
      |_=>none
     |none=>none
   |_=>none
def zgq(P:Program):Env->List (ResultVar×TypeId)->Option (List A×Env)
 |e,[]=>some ([],e)
 |e,(r,ty)::rs=>match zm6 P e r ty with
  |some (a,e')=>match zgq P e' rs with
   |some (as,e'')=>some (a::as,e'')
   |none=>none
  |none=>none
def ze2(e:Env):zar->Option (zar)
 | []=>some []
 |(n,_)::r=>match e.box n with
  |some cs=>if cs.all A.portable then match ze2 e r with
   |some m=>some ((n,cs)::m)
   |none=>none
   else none
  |none=>none
def zpj(P:Program)(fn:Func)(e:Env)(bx:zar):Option (V×zar):=
 if fn.results.size=fn.resultTypes.size then match zgq P e (fn.results.toList.zip fn.resultTypes.toList)with
  |some (as,e')=>if as.all A.leaves then match ze2 e' bx with
   |some m=>match as with
    | [a]=>some (.one a,m)
    |as=>some (.tup as,m)
   |none=>none
   else none
  |none=>none
 else none
def zaj(n:Nat)(args:List A)(bx:zar):Env:=
 {size:=n,tmps:=λt=>match args[t]? with|some a=>.one a|none=>.undef,boxes:=λb=>zbe b bx}
end Go.Qz
