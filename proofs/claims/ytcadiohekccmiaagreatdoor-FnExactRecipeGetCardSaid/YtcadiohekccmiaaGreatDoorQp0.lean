import Derived.Test.YtcadiohekccmiaaGreatDoorQn0
import Derived.Laws.Strings
namespace Go.Qz
theorem zai{c:Ctx}{a:zab}{ks:List Fr}{r:Option (V×zar)}(I:Nat->Env->Prop)
 (h:∀m e,I m e->(∀m' e',m' <m->I m' e' ->Run c (.loop a) e' ks=r)->Run c a e (.loop a::ks)=r):∀m e,I m e->Run c (.loop a) e ks=r:=by
 intro m
 induction m using Nat.strongRecOn with
 |_ m ih=>
  intro e hI;rw[zyv];exact h m e hI (λm' e' hlt hI' =>ih m' hlt e' hI')
theorem zob{c:Ctx}{o i:Env}{ps:List Nat}{a b:zab}{ks:List Fr}{r:Option (V×zar)}(I:List (List UInt8)->Env->Prop)
 (h:∀xs e,I xs e->(∀xs' e',xs'.length<xs.length->I xs' e' ->RunR c o i ps a b (xs'.map λl=>⟨l.toArray⟩) e' ks=r)->RunR c o i ps a b (xs.map λl=>⟨l.toArray⟩) e ks=r):∀xs e,I xs e->RunR c o i ps a b (xs.map λl=>⟨l.toArray⟩) e ks=r:=by
 have key:∀n xs e,xs.length=n->I xs e->RunR c o i ps a b (xs.map λl=>⟨l.toArray⟩) e ks=r:=by
  intro n
  induction n using Nat.strongRecOn with
  |_ n ih=>
   intro xs e hn hI;exact h xs e hI (λxs' e' hlt hI' =>ih xs'.length (by omega) xs' e' rfl hI')
 exact λxs e hI=>key _ xs e rfl hI
theorem zoc{c:Ctx}{e:Env}{ps:List Nat}{a b:zab}{ks:List Fr}{r:Option (V×zar)}{xs:List ByteArray}(h:∀o,o=e->RunR c o o.enter ps a b xs o.enter ks=r):RunR c e e.enter ps a b xs e.enter ks=r:=h e rfl
@[simp] theorem ybo(l:List UInt8)(b:UInt8):zht ⟨l.toArray⟩ ⟨#[b]⟩=(zav b l).map λl=>⟨l.toArray⟩:=(rfl)
def gate{α:Type}:Option Bool->Option α->Option α->Option α
 |some true,x,_=>x
 |some false,_,y=>y
 |none,_,_=>none
@[congr] theorem yc8{α:Type}{g g':Option Bool}(x y:Option α)(h:g=g'):gate g x y=gate g' x y:=by rw[h]
theorem z4f{α:Type}(x y:Option α):gate (some true) x y=x:=(rfl)
theorem z0w{α:Type}(x y:Option α):gate (some false) x y=y:=(rfl)
attribute [simp] z4f z0w
theorem z8j(P:Program)(io:FuncId->List Nat)(call:zal)(q:QOp)(e:Env):zdc P io call q e=gate (zej e q.g) (evOp P io call e q.oper) (zas e q.dst .undef):=by
 unfold zdc
 cases zej e q.g with
 |none=>rfl
 |some b=>cases b<;>rfl
def stpW(ds:List Nat)(e:Env)(dst:Option Nat)(op:Op):Option (V×Nat×List A)->Option Stp
 |some (v,b,cs)=>if v.clean ds&&zhs e dst&&fitD dst op then some ⟨dst,v,none,some (b,cs)⟩else none
 |none=>none
def stpI(ds:List Nat)(e:Env)(dst:Option Nat)(op:Op)(t:Option Nat)(v:V):Option Stp:=if v.clean ds&&zhs e dst&&zoz ds e op then some ⟨dst,v,t,none⟩else none
theorem z4g(ds:List Nat)(e:Env)(dst:Option Nat)(op:Op)(w:Option (V×Nat×List A))(v:V)(t:Option Nat):stp1 ds e dst op w (some (v,t))=stpI ds e dst op t (iceR (zf4 ds) op v):=(rfl)
theorem z4h(ds:List Nat)(e:Env)(dst:Option Nat)(op:Op)(w:Option (V×Nat×List A)):stp1 ds e dst op w none=stpW ds e dst op w:=(rfl)
@[congr] theorem yc9(ds:List Nat)(e:Env)(dst:Option Nat)(op:Op)(w:Option (V×Nat×List A)){x y:Option (V×Option Nat)}(h:x=y):stp1 ds e dst op w x=stp1 ds e dst op w y:=by rw[h]
theorem ybp(P:Program)(io:FuncId->List Nat)(call:zal)(ds:List Nat)(q:QOp)(e:Env):stpQ P io call ds q e=gate (zej e q.g) (stp1 ds e q.dst q.op (wrV P io call ds e q.op) (zbh P io call ds e q.ty q.op)) (if zhs e q.dst then some ⟨q.dst,.undef,none,none⟩else none):=by
 unfold stpQ
 cases zej e q.g with
 |none=>rfl
 |some b=>cases b<;>rfl
theorem z4i(e:Env)(op:Op):zoz [] e op=true:=(rfl)
theorem z0x(d:Nat)(ds:List Nat)(e:Env)(op:Op):zoz (d::ds) e op=zsi (decide (d<1000000000)) (d::ds) e op:=(rfl)
@[congr] theorem ybq{b b':Bool}(ds:List Nat)(e:Env)(op:Op)(h:b=b'):zsi b ds e op=zsi b' ds e op:=by rw[h]
theorem z0y(ds:List Nat)(e:Env)(op:Op):zsi true ds e op=true:=(rfl)
theorem zwu(ds:List Nat)(e:Env)(op:Op):zsi false ds e op=(mvB op||valB op||zij ds e op):=(rfl)
def tmpL:List Operand->List Nat
 | []=>[]
 | .tmp t::r=>t::tmpL r
 |_::r=>tmpL r
theorem zwv(l:List Operand):l.filterMap (λ| .tmp t=>some t|_=>none)=tmpL l:=by
 induction l with
 |nil=>rfl
 |cons x r ih=>cases x<;>simp[tmpL,ih]
@[simp] theorem yfu:tmpL []=[]:=(rfl)
@[simp] theorem yfv(t:Nat)(r:List Operand):tmpL (.tmp t::r)=t::tmpL r:=(rfl)
@[simp] theorem yda(v:Value)(r:List Operand):tmpL (.const v::r)=tmpL r:=(rfl)
@[simp] theorem yd8(s:TypeId)(x:Operand):za6 (.load s x)=tmpL [x]:=by rw[<-zwv];rfl
@[simp] theorem ydb(o:BinOp)(s u:TypeId)(x y:Operand):za6 (.binOp o s x y u)=tmpL [x,y]:=by rw[<-zwv];rfl
@[simp] theorem yd9(x y z:Operand):za6 (.pick x y z)=tmpL [x,y,z]:=by rw[<-zwv];rfl
@[simp] theorem ybr(d:Nat)(ds:List Nat):zf4 (d::ds)=decide (d<1000000000):=(rfl)
attribute [simp] fitD zsa zqo roOp zlv z8j ybp z4g stpI iceR zm5 zj3 z4h stpW z4i z0x z0y zwu valB mvB zij wrV wrBs zbf Env.boxed QOp.oper Stp.app zhs zej zc8 zbh zb6 zse zi8 zcx zpk zfy zjh zf2 Env.eat V.clean A.clean Root.cleanR Root.cleanT A.dropAll zh6
theorem wrap64{n:Int}(h:-9223372036854775808<=n)(h':n<9223372036854775808):IntKind.i64.wrap n=n:=by
 simp[IntKind.wrap,IntKind.signed,IntKind.bits];omega
@[simp] theorem zad{n:Nat}(h:n<9223372036854775807):IntKind.i64.wrap ((n:Int)+1)=((n+1:Nat):Int):=by
  rw[wrap64 (by omega) (by omega)]
  omega
@[simp] theorem ybs(n:Nat):(1:Int)<=(n:Int)+1:=by omega
@[simp] theorem ybt(a n:Nat):((a:Int)<(no_index (OfNat.ofNat n:Int)))↔a<OfNat.ofNat n:=by
  show ((a:Int)<((n:Nat):Int))↔a<n;omega
@[simp] theorem ybu(a n:Nat):((a:Int)<=(no_index (OfNat.ofNat n:Int)))↔a<=OfNat.ofNat n:=by
  show ((a:Int)<=((n:Nat):Int))↔a<=n;omega
@[simp] theorem ybv(a n:Nat):((no_index (OfNat.ofNat n:Int))<(a:Int))↔OfNat.ofNat n<a:=by
  show (((n:Nat):Int)<(a:Int))↔n<a;omega
@[simp] theorem ybw(a n:Nat):((no_index (OfNat.ofNat n:Int))<=(a:Int))↔OfNat.ofNat n<=a:=by
  show (((n:Nat):Int)<=(a:Int))↔n<=a;omega
@[simp] theorem yaq(a n:Nat):((a:Int)==(no_index (OfNat.ofNat n:Int)))=(a==OfNat.ofNat n):=by
  show ((a:Int)==((n:Nat):Int))=(a==n);rw[Bool.eq_iff_iff];simp;omega
@[simp] theorem yfw(a b:Nat):((a:Int)==(b:Int))=(a==b):=by
  rw[Bool.eq_iff_iff];simp;omega
@[simp] theorem ygi(a b:Int):(a !=b)= !(a==b):=(rfl)
@[simp] theorem ydc(c:UInt8)(n:Nat)(h:n<256):(c.toNat==no_index (OfNat.ofNat n))=(c==OfNat.ofNat n):=by
  show (c.toNat==n)=(c==UInt8.ofNat n);rw[Bool.eq_iff_iff];simp only[beq_iff_eq];constructor
  ·intro h';apply UInt8.toNat_inj.1;rw[h',UInt8.toNat_ofNat_of_lt' h]
  ·rintro rfl;rw[UInt8.toNat_ofNat_of_lt' h]
abbrev B(l:List UInt8):ByteArray:=⟨l.toArray⟩
abbrev T(l:List UInt8):D:=.str (B l)
@[simp] theorem ygj(l:List UInt8):ByteArray.size ⟨l.toArray⟩=l.length:=by simp[ByteArray.size]
@[simp] theorem yea(l m:List UInt8):(⟨l.toArray⟩++⟨m.toArray⟩:ByteArray)=⟨(l++m).toArray⟩:=by
  apply ByteArray.ext;simp
theorem yeb{a b:ByteArray}(h:a.data.toList=b.data.toList):a=b:=by
 apply ByteArray.ext;exact Array.ext' h
@[simp] theorem zp6(l:List UInt8)(i j:Nat):ByteArray.extract ⟨l.toArray⟩ i j=⟨((l.take j).drop i).toArray⟩:=by
  apply yeb;rw[ByteArray.data_extract];simp[List.extract_eq_take_drop,List.drop_take]
end Go.Qz
namespace Go.Qz
variable{P:Program}{io:FuncId->List Nat}{call:zal}{qs:List QOp}{ws:List (List Nat)}
theorem zod{done:List Nat}{i:Nat}:i∈zf3 ws done↔i<ws.length/\done.contains i=false/\ ∀j∈ws.getD i [],done.contains j=true:=by
 unfold zf3;rw[List.mem_filter,List.mem_range];simp only[Bool.and_eq_true,Bool.not_eq_true',List.all_eq_true]
theorem zt1{done:List Nat}(hback:∀i,i<ws.length-> ∀j∈ws.getD i [],j<i)(h:zf3 ws done=[]):∀i,i<ws.length->done.contains i=true:=by
 intro i
 induction i using Nat.strongRecOn with
 |_ i ih=>
  intro hi
  cases hc:done.contains i with
  |true=>rfl
  |false=>
   have:i∈zf3 ws done:=zod.2 ⟨hi,hc,λj hj=>ih j (hback i hi j hj) (Nat.lt_trans (hback i hi j hj) hi)⟩
   rw[h]at this;cases this
def z8k(ws:List (List Nat))(done:List Nat):Nat:=((List.range ws.length).filter λi=> !done.contains i).length
theorem zt2{done:List Nat}{i:Nat}(hi:i<ws.length)(hc:done.contains i=false):z8k ws (i::done)<z8k ws done:=by
 unfold z8k
 have h1:((List.range ws.length).filter λj=> !(i::done).contains j).Sublist (((List.range ws.length).filter λj=> !done.contains j).erase i):=by
  have e:((List.range ws.length).filter λj=> !(i::done).contains j)=((List.range ws.length).filter λj=> !done.contains j).filter λj=> !(j==i):=by
   rw[List.filter_filter];congr 1;funext j;rw[List.contains_cons];cases j==i<;>cases done.contains j<;>rfl
  rw[e];have hn:((List.range ws.length).filter λj=> !done.contains j).Nodup:=(List.nodup_range).filter _
  rw[hn.erase_eq_filter];exact List.Sublist.refl _
 have hm:i∈(List.range ws.length).filter λj=> !done.contains j:=List.mem_filter.2 ⟨List.mem_range.2 hi,by rw[hc];rfl⟩
 have h2:=h1.length_le;rw[List.length_erase_of_mem hm]at h2;have h3:=List.length_pos_of_mem hm;omega
theorem zww{F:Env->Prop}(I:List Nat->Env->Prop)(hback:∀i,i<ws.length-> ∀j∈ws.getD i [],j<i)(hfin:∀done e,(∀i,i<ws.length->done.contains i=true)->I done e->F e)
 (hstep:∀done e i,i<ws.length->done.contains i=false->(∀j∈ws.getD i [],done.contains j=true)->I done e-> ∃q e1,qs[i]? =some q/\zdc P io call q e=some e1/\I (i::done) e1):
 ∀(n:Nat) (done:List Nat) (e:Env),z8k ws done<=n->I done e->zbi P io call qs ws F n done e:=by
 intro n
 induction n with
 |zero=>
  intro done e hn hI
  have h0:zf3 ws done=[]:=by
   rw[List.eq_nil_iff_forall_not_mem];intro i hi;obtain⟨h1,h2,_⟩:=zod.1 hi;have:=zt2 h1 h2;omega
  exact⟨h0,hfin done e (zt1 hback h0) hI⟩
 |succ n ih=>
  intro done e hn hI;refine⟨λh0=>hfin done e (zt1 hback h0) hI,λi hi=>?_⟩
  obtain⟨h1,h2,h3⟩:=zod.1 hi;obtain⟨q,e1,k1,k2,k3⟩:=hstep done e i h1 h2 h3 hI;exact⟨q,e1,k1,k2,ih (i::done) e1 (by have:=zt2 h1 h2;omega) k3⟩
end Go.Qz
