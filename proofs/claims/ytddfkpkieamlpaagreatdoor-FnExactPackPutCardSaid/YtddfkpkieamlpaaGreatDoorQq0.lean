import Derived.Test.YtddfkpkieamlpaaGreatDoorQo0
import Derived.Laws.Strings
namespace Go.Qz
theorem zam{c:Ctx}{a:zaa}{ks:List Fr}{r:Option (V×zas)}(I:Nat->Env->Prop)
 (h:∀m e,I m e->(∀m' e',m' <m->I m' e' ->Run c (.loop a) e' ks=r)->Run c a e (.loop a::ks)=r):∀m e,I m e->Run c (.loop a) e ks=r:=by
 intro m
 induction m using Nat.strongRecOn with
 |_ m ih=>
  intro e hI;rw[zvf];exact h m e hI (λm' e' hlt hI' =>ih m' hlt e' hI')
theorem zrk{c:Ctx}{o i:Env}{ps:List Nat}{a b:zaa}{ks:List Fr}{r:Option (V×zas)}(I:List (List UInt8)->Env->Prop)
 (h:∀xs e,I xs e->(∀xs' e',xs'.length<xs.length->I xs' e' ->RunR c o i ps a b (xs'.map λl=>⟨l.toArray⟩) e' ks=r)->RunR c o i ps a b (xs.map λl=>⟨l.toArray⟩) e ks=r):∀xs e,I xs e->RunR c o i ps a b (xs.map λl=>⟨l.toArray⟩) e ks=r:=by
 have key:∀n xs e,xs.length=n->I xs e->RunR c o i ps a b (xs.map λl=>⟨l.toArray⟩) e ks=r:=by
  intro n
  induction n using Nat.strongRecOn with
  |_ n ih=>
   intro xs e hn hI;exact h xs e hI (λxs' e' hlt hI' =>ih xs'.length (by omega) xs' e' rfl hI')
 exact λxs e hI=>key _ xs e rfl hI
theorem zrl{c:Ctx}{e:Env}{ps:List Nat}{a b:zaa}{ks:List Fr}{r:Option (V×zas)}{xs:List ByteArray}(h:∀o,o=e->RunR c o o.enter ps a b xs o.enter ks=r):RunR c e e.enter ps a b xs e.enter ks=r:=h e rfl
@[simp] theorem z5v(l:List UInt8)(b:UInt8):zgh ⟨l.toArray⟩ ⟨#[b]⟩=(za7 b l).map λl=>⟨l.toArray⟩:=(rfl)
def gate{α:Type}:Option Bool->Option α->Option α->Option α
 |some true,x,_=>x
 |some false,_,y=>y
 |none,_,_=>none
@[congr] theorem z6z{α:Type}{g g':Option Bool}(x y:Option α)(h:g=g'):gate g x y=gate g' x y:=by rw[h]
theorem z0l{α:Type}(x y:Option α):gate (some true) x y=x:=(rfl)
theorem zw1{α:Type}(x y:Option α):gate (some false) x y=y:=(rfl)
attribute [simp] z0l zw1
theorem z3n(P:Program)(io:FuncId->List Nat)(call:zai)(q:QOp)(e:Env):zh2 P io call q e=gate (zdr e q.g) (evOp P io call e q.oper) (zap e q.dst .undef):=by
 unfold zh2
 cases zdr e q.g with
 |none=>rfl
 |some b=>cases b<;>rfl
def stpW(ds:List Nat)(e:Env)(dst:Option Nat)(op:Op):Option (V×Nat×List A)->Option Stp
 |some (v,b,cs)=>if v.clean ds&&zgg e dst&&fitD dst op then some ⟨dst,v,none,some (b,cs)⟩else none
 |none=>none
def stpI(ds:List Nat)(e:Env)(dst:Option Nat)(op:Op)(t:Option Nat)(v:V):Option Stp:=if v.clean ds&&zgg e dst&&zm4 ds e op then some ⟨dst,v,t,none⟩else none
theorem z0m(ds:List Nat)(e:Env)(dst:Option Nat)(op:Op)(w:Option (V×Nat×List A))(v:V)(t:Option Nat):stp1 ds e dst op w (some (v,t))=stpI ds e dst op t (iceR (ze6 ds) op v):=(rfl)
theorem z0n(ds:List Nat)(e:Env)(dst:Option Nat)(op:Op)(w:Option (V×Nat×List A)):stp1 ds e dst op w none=stpW ds e dst op w:=(rfl)
@[congr] theorem z60(ds:List Nat)(e:Env)(dst:Option Nat)(op:Op)(w:Option (V×Nat×List A)){x y:Option (V×Option Nat)}(h:x=y):stp1 ds e dst op w x=stp1 ds e dst op w y:=by rw[h]
theorem z5w(P:Program)(io:FuncId->List Nat)(call:zai)(ds:List Nat)(q:QOp)(e:Env):stpQ P io call ds q e=gate (zdr e q.g) (stp1 ds e q.dst q.op (wrV P io call ds e q.op) (za6 P io call ds e q.ty q.op)) (if zgg e q.dst then some ⟨q.dst,.undef,none,none⟩else none):=by
 unfold stpQ
 cases zdr e q.g with
 |none=>rfl
 |some b=>cases b<;>rfl
theorem z0o(e:Env)(op:Op):zm4 [] e op=true:=(rfl)
theorem zw2(d:Nat)(ds:List Nat)(e:Env)(op:Op):zm4 (d::ds) e op=zpz (decide (d<1000000000)) (d::ds) e op:=(rfl)
@[congr] theorem z5x{b b':Bool}(ds:List Nat)(e:Env)(op:Op)(h:b=b'):zpz b ds e op=zpz b' ds e op:=by rw[h]
theorem zw3(ds:List Nat)(e:Env)(op:Op):zpz true ds e op=true:=(rfl)
theorem ztr(ds:List Nat)(e:Env)(op:Op):zpz false ds e op=(mvB op||valB op||zg6 ds e op):=(rfl)
@[simp] theorem z5y(d:Nat)(ds:List Nat):ze6 (d::ds)=decide (d<1000000000):=(rfl)
attribute [simp] fitD zpr zoo roOp zj6 z3n z5w z0m stpI iceR zla zin z0n stpW z0o zw2 zw3 ztr valB mvB zg6 wrV wrBs za8 Env.boxed QOp.oper Stp.app zgg zdr zc4 za6 zbs zpw zhq zcn znj ze0 zh1 ze5 Env.eat V.clean A.clean Root.cleanR Root.cleanT A.dropAll zid
theorem wrap64{n:Int}(h:-9223372036854775808<=n)(h':n<9223372036854775808):IntKind.i64.wrap n=n:=by
 simp[IntKind.wrap,IntKind.signed,IntKind.bits];omega
@[simp] theorem zah{n:Nat}(h:n<9223372036854775807):IntKind.i64.wrap ((n:Int)+1)=((n+1:Nat):Int):=by
  rw[wrap64 (by omega) (by omega)]
  omega
@[simp] theorem z5z(n:Nat):(1:Int)<=(n:Int)+1:=by omega
@[simp] theorem z86:IntKind.i64.wrap 1=1:=by decide
@[simp] theorem z50(a n:Nat):((a:Int)<(no_index (OfNat.ofNat n:Int)))↔a<OfNat.ofNat n:=by
  show ((a:Int)<((n:Nat):Int))↔a<n;omega
@[simp] theorem z52(a n:Nat):((a:Int)<=(no_index (OfNat.ofNat n:Int)))↔a<=OfNat.ofNat n:=by
  show ((a:Int)<=((n:Nat):Int))↔a<=n;omega
@[simp] theorem z54(a n:Nat):((no_index (OfNat.ofNat n:Int))<(a:Int))↔OfNat.ofNat n<a:=by
  show (((n:Nat):Int)<(a:Int))↔n<a;omega
@[simp] theorem z55(a n:Nat):((no_index (OfNat.ofNat n:Int))<=(a:Int))↔OfNat.ofNat n<=a:=by
  show (((n:Nat):Int)<=(a:Int))↔n<=a;omega
@[simp] theorem z40(a n:Nat):((a:Int)==(no_index (OfNat.ofNat n:Int)))=(a==OfNat.ofNat n):=by
  show ((a:Int)==((n:Nat):Int))=(a==n);rw[Bool.eq_iff_iff];simp;omega
@[simp] theorem z87(a b:Nat):((a:Int)==(b:Int))=(a==b):=by
  rw[Bool.eq_iff_iff];simp;omega
@[simp] theorem z9r(a b:Int):(a !=b)= !(a==b):=(rfl)
@[simp] theorem z61(c:UInt8)(n:Nat)(h:n<256):(c.toNat==no_index (OfNat.ofNat n))=(c==OfNat.ofNat n):=by
  show (c.toNat==n)=(c==UInt8.ofNat n);rw[Bool.eq_iff_iff];simp only[beq_iff_eq];constructor
  ·intro h';apply UInt8.toNat_inj.1;rw[h',UInt8.toNat_ofNat_of_lt' h]
  ·rintro rfl;rw[UInt8.toNat_ofNat_of_lt' h]
abbrev B(l:List UInt8):ByteArray:=⟨l.toArray⟩
abbrev T(l:List UInt8):D:=.str (B l)
@[simp] theorem z9s(l:List UInt8):ByteArray.size ⟨l.toArray⟩=l.length:=by simp[ByteArray.size]
@[simp] theorem z7x(l m:List UInt8):(⟨l.toArray⟩++⟨m.toArray⟩:ByteArray)=⟨(l++m).toArray⟩:=by
  apply ByteArray.ext;simp
theorem z7y{a b:ByteArray}(h:a.data.toList=b.data.toList):a=b:=by
 apply ByteArray.ext;exact Array.ext' h
@[simp] theorem zn7(l:List UInt8)(i j:Nat):ByteArray.extract ⟨l.toArray⟩ i j=⟨((l.take j).drop i).toArray⟩:=by
  apply z7y;rw[ByteArray.data_extract];simp[List.extract_eq_take_drop,List.drop_take]
end Go.Qz
namespace Go.Qz
def wn(v:BitVec 32):Int:=(v.toNat:Int)
abbrev W(v:BitVec 32):D:=.int .u32 (wn v)
theorem zrm(n:Nat):IntKind.u32.wrap (n:Int)=((n % 4294967296:Nat):Int):=by
 simp[IntKind.wrap,IntKind.signed,IntKind.bits]
theorem zpf(v:BitVec 32):IntKind.u32.wrap (v.toNat:Int)=wn v:=by
 rw[zrm,Nat.mod_eq_of_lt v.isLt,wn]
@[simp] theorem ye0(v w:BitVec 32):IntKind.u32.wrap (wn v+wn w)=wn (v+w):=by
  rw[wn,wn,<-Int.natCast_add,zrm,wn,BitVec.toNat_add]
theorem zet(v:BitVec 32):(wn v % 2^IntKind.u32.bits).toNat=v.toNat:=by
 rw[wn,show (2^IntKind.u32.bits:Int)=((2^32:Nat):Int) by decide,<-Int.natCast_emod,Int.toNat_natCast,Nat.mod_eq_of_lt v.isLt]
@[simp] theorem ye1(v w:BitVec 32):IntKind.u32.wrap (((wn v % 2^IntKind.u32.bits).toNat^^^(wn w % 2^IntKind.u32.bits).toNat:Nat):Int)=wn (v^^^w):=by
  rw[zet,zet,<-BitVec.toNat_xor,zpf]
@[simp] theorem w_or(v w:BitVec 32):IntKind.u32.wrap (((wn v % 2^IntKind.u32.bits).toNat|||(wn w % 2^IntKind.u32.bits).toNat:Nat):Int)=wn (v|||w):=by
  rw[zet,zet,<-BitVec.toNat_or,zpf]
@[simp] theorem ye2(v w:BitVec 32):IntKind.u32.wrap (((wn v % 2^IntKind.u32.bits).toNat&&&(wn w % 2^IntKind.u32.bits).toNat:Nat):Int)=wn (v&&&w):=by
  rw[zet,zet,<-BitVec.toNat_and,zpf]
@[simp] theorem w_15(v:BitVec 32):IntKind.u32.wrap (((wn v % 2^IntKind.u32.bits).toNat&&&15 % 2^IntKind.u32.bits:Nat):Int)=((v.toNat % 16:Nat):Int):=by
  rw[zet,show 15 % 2^IntKind.u32.bits=2^4-1 by decide,Nat.and_two_pow_sub_one_eq_mod,zrm]
  congr 1;omega
@[simp] theorem ye3(v:BitVec 32):IntKind.u32.wrap ((((if IntKind.u32.signed=true then-1 else IntKind.u32.max) % 2^IntKind.u32.bits).toNat^^^(wn v % 2^IntKind.u32.bits).toNat:Nat):Int)=wn (~~~v):=by
  rw[zet];have e:((if IntKind.u32.signed=true then-1 else IntKind.u32.max) % 2^IntKind.u32.bits).toNat=(BitVec.allOnes 32).toNat:=by decide
  rw[e,<-BitVec.toNat_xor,BitVec.allOnes_xor,zpf]
@[simp] theorem ye4(v:BitVec 32)(n:Nat):Int.fdiv (wn v) (2^min n IntKind.u32.bits)=wn (v>>>n):=by
  have e:(2^min n IntKind.u32.bits:Int)=((2^min n 32:Nat):Int):=by
   rw[Int.natCast_pow];rfl
  rw[wn,wn,e,Int.fdiv_eq_ediv_of_nonneg _ (Int.natCast_nonneg _),<-Int.natCast_ediv,BitVec.toNat_ushiftRight,Nat.shiftRight_eq_div_pow];congr 1;rcases Nat.le_total n 32 with h|h
  ·rw[Nat.min_eq_left h]
  ·rw[Nat.min_eq_right h,Nat.div_eq_of_lt v.isLt,Nat.div_eq_of_lt (Nat.lt_of_lt_of_le v.isLt (Nat.pow_le_pow_right (by decide) h))]
@[simp] theorem ye5(v:BitVec 32)(n:Nat):IntKind.u32.wrap (wn v*2^min n IntKind.u32.bits)=wn (v<<<n):=by
  have e:(2^min n IntKind.u32.bits:Int)=((2^min n 32:Nat):Int):=by
   rw[Int.natCast_pow];rfl
  rw[wn,wn,e,<-Int.natCast_mul,zrm,BitVec.toNat_shiftLeft,Nat.shiftLeft_eq];congr 1;rcases Nat.le_total n 32 with h|h
  ·rw[Nat.min_eq_left h]
  ·rw[Nat.min_eq_right h]
   have e2:2^n=4294967296*2^(n-32):=by
    rw[show (4294967296:Nat)=2^32 by decide,<-Nat.pow_add];congr 1;omega
   rw[e2,<-Nat.mul_assoc,Nat.mul_comm v.toNat,Nat.mul_assoc];simp
def bw(b:UInt8):BitVec 32:=BitVec.ofNat 32 b.toNat
@[simp] theorem ydu(b:UInt8):IntKind.u32.wrap (b.toNat:Int)=wn (bw b):=by
  rw[zrm];rfl
def lb(v:BitVec 32):UInt8:=UInt8.ofNat v.toNat
@[simp] theorem ydv(v:BitVec 32):IntKind.u8.wrap (wn v)=((lb v).toNat:Int):=by
  simp[IntKind.wrap,IntKind.signed,IntKind.bits,lb,wn]
theorem zb1{α:Type}{l:List α}{i:Nat}(d:α)(h:i<l.length):l.getD i d=l[i]:=by simp[List.getD_eq_getElem?_getD,h]
def rotr(v:BitVec 32)(n:Nat):BitVec 32:=v>>>n|||v<<<(32-n)
def kL:List (BitVec 32):=[0x428a2f98,0x71374491,0xb5c0fbcf,0xe9b5dba5,0x3956c25b,0x59f111f1,0x923f82a4,0xab1c5ed5,
 0xd807aa98,0x12835b01,0x243185be,0x550c7dc3,0x72be5d74,0x80deb1fe,0x9bdc06a7,0xc19bf174,
 0xe49b69c1,0xefbe4786,0x0fc19dc6,0x240ca1cc,0x2de92c6f,0x4a7484aa,0x5cb0a9dc,0x76f988da,
 0x983e5152,0xa831c66d,0xb00327c8,0xbf597fc7,0xc6e00bf3,0xd5a79147,0x06ca6351,0x14292967,
 0x27b70a85,0x2e1b2138,0x4d2c6dfc,0x53380d13,0x650a7354,0x766a0abb,0x81c2c92e,0x92722c85,
 0xa2bfe8a1,0xa81a664b,0xc24b8b70,0xc76c51a3,0xd192e819,0xd6990624,0xf40e3585,0x106aa070,
 0x19a4c116,0x1e376c08,0x2748774c,0x34b0bcb5,0x391c0cb3,0x4ed8aa4a,0x5b9cca4f,0x682e6ff3,
 0x748f82ee,0x78a5636f,0x84c87814,0x8cc70208,0x90befffa,0xa4506ceb,0xbef9a3f7,0xc67178f2]
structure S8 where
 a:BitVec 32
 b:BitVec 32
 c:BitVec 32
 d:BitVec 32
 e:BitVec 32
 f:BitVec 32
 g:BitVec 32
 h:BitVec 32
def S8.list(s:S8):List (BitVec 32):=[s.a,s.b,s.c,s.d,s.e,s.f,s.g,s.h]
def h0:S8:=⟨0x6a09e667,0xbb67ae85,0x3c6ef372,0xa54ff53a,0x510e527f,0x9b05688c,0x1f83d9ab,0x5be0cd19⟩
def z3o(b:List UInt8)(i:Nat):BitVec 32:=bw (b.getD (4*i) 0)<<<24|||bw (b.getD (4*i+1) 0)<<<16|||bw (b.getD (4*i+2) 0)<<<8|||bw (b.getD (4*i+3) 0)
def wnew(w:List (BitVec 32))(i:Nat):BitVec 32:=
 w.getD (i-16) 0+(rotr (w.getD (i-15) 0) 7^^^rotr (w.getD (i-15) 0) 18^^^w.getD (i-15) 0>>>3)+w.getD (i-7) 0+(rotr (w.getD (i-2) 0) 17^^^rotr (w.getD (i-2) 0) 19^^^w.getD (i-2) 0>>>10)
def za3(b:List UInt8):Nat->List (BitVec 32)
 |0=>[]
 |n+1=>za3 b n++[if n<16 then z3o b n else wnew (za3 b n) n]
theorem zen(b:List UInt8):∀n,(za3 b n).length=n
 |0=>rfl
 |n+1=>by rw[za3,List.length_append,zen b n];rfl
def rnd(s:S8)(k w:BitVec 32):S8:=
 let t:=s.h+(rotr s.e 6^^^rotr s.e 11^^^rotr s.e 25)+(s.e&&&s.f^^^ ~~~s.e&&&s.g)+k+w
 ⟨t+(rotr s.a 2^^^rotr s.a 13^^^rotr s.a 22)+(s.a&&&s.b^^^s.a&&&s.c^^^s.b&&&s.c),s.a,s.b,s.c,s.d+t,s.e,s.f,s.g⟩
def rnds(b:List UInt8)(s:S8):Nat->S8
 |0=>s
 |n+1=>rnd (rnds b s n) (kL.getD n 0) ((za3 b 64).getD n 0)
def S8.add(s t:S8):S8:=⟨s.a+t.a,s.b+t.b,s.c+t.c,s.d+t.d,s.e+t.e,s.f+t.f,s.g+t.g,s.h+t.h⟩
def blk(s:S8)(b:List UInt8):S8:=s.add (rnds b s 64)
def blks(d:List UInt8):Nat->S8
 |0=>h0
 |n+1=>blk (blks d n) ((d.drop (64*n)).take 64)
def lenB(n:Nat)(k:Nat):UInt8:=UInt8.ofNat ((8*n)/2^(8*k))
def padZ(t:List UInt8):List UInt8:=(t++[128])++List.replicate ((119-t.length % 64) % 64) 0
def zb4(t:List UInt8):List UInt8:=padZ t++[lenB t.length 7,lenB t.length 6,lenB t.length 5,lenB t.length 4,lenB t.length 3,lenB t.length 2,lenB t.length 1,lenB t.length 0]
def fig(n:Nat):UInt8:=[48,49,50,51,52,53,54,55,56,57,97,98,99,100,101,102].getD n 0
def figW(v:BitVec 32):List UInt8:=[fig (v.toNat/2^28 % 16),fig (v.toNat/2^24 % 16),fig (v.toNat/2^20 % 16),fig (v.toNat/2^16 % 16),fig (v.toNat/2^12 % 16),fig (v.toNat/2^8 % 16),fig (v.toNat/2^4 % 16),fig (v.toNat % 16)]
def sumT(t:List UInt8):List UInt8:=let s:=blks (zb4 t) ((zb4 t).length/64);figW s.a++figW s.b
theorem z3p(t:List UInt8):(padZ t).length % 64=56:=by
 simp only[padZ,List.length_append,List.length_replicate,List.length_singleton];omega
theorem zhj(t:List UInt8):(zb4 t).length=64*((zb4 t).length/64)/\(zb4 t).length=(padZ t).length+8:=by
 have h:=z3p t;have e:(zb4 t).length=(padZ t).length+8:=by simp[zb4]
 rw[e];generalize (padZ t).length=n at *;omega
theorem zvg(t:List UInt8):(sumT t).length=16:=rfl
theorem zw4(b0 b1 b2 b3:UInt8):(((((0:BitVec 32)<<<8|||bw b0)<<<8|||bw b1)<<<8|||bw b2)<<<8|||bw b3)=bw b0<<<24|||bw b1<<<16|||bw b2<<<8|||bw b3:=by
 simp[BitVec.shiftLeft_or_distrib,<-BitVec.shiftLeft_add]
end Go.Qz
