import Derived.Test.YtddfkpkieamlpaaGreatDoorQc0
namespace Go.Qz
def za8(b:Nat):Nat:=1000000000+b
def Root.cleanR(ds:List Nat):Root->Bool
 | .tmp t=> !ds.contains t
 | .cell b _=> !ds.contains (za8 b)
def A.clean(ds:List Nat):A->Bool
 | .view l=>l.root.cleanR ds
 | .eptr l _ _ _=>l.root.cleanR ds
 | .pview l _ _=>l.root.cleanR ds
 |_=>true
def V.clean(ds:List Nat):V->Bool
 | .one a=>a.clean ds
 | .tup as=>as.all (A.clean ds)
 | .agg as=>as.all (A.clean ds)
structure Agree(ds:List Nat)(e1 e2:Env)(ts:List Nat):Prop where
 box:∀t∈ts,∀b o,e1.get t=.one (.ptr b o)->e1.box b=e2.box b
 own:∀l:Loc,l.root.cleanR ds=true->e1.ownAt l=e2.ownAt l
 tmp:∀t∈ts,e1.get t=e2.get t
 cl:∀t∈ts,(e1.get t).clean ds=true
section
variable{ds:List Nat}{e1 e2:Env}{ts:List Nat}(h:Agree ds e1 e2 ts)
include h
theorem Agree.data{a:A}(ha:a.clean ds=true):a.data e1=a.data e2:=by
 cases a with
 |view l=>exact h.own l ha
 |_=>rfl
theorem Agree.datas:∀{as:List A},as.all (A.clean ds)=true->datas e1 as=datas e2 as
 | [],_=>rfl
 |a::r,ha=>by
  simp only[List.all_cons,Bool.and_eq_true]at ha;simp only[Go.Qz.datas,h.data ha.1,Agree.datas ha.2]
theorem Agree.vdata{V:V}(hV:V.clean ds=true):V.data e1=V.data e2:=by
 cases V with
 |one a=>exact h.data hV
 |agg as=>simp only[V.data,h.datas hV]
 |tup as=>rfl
omit h in
theorem zlc{P:Program}{ty:TypeId}{v:Value}{a:A}(hc:zf4 P ty v=some a):a.clean ds=true:=by
 unfold zf4 at hc;split at hc
 ·split at hc
  ·obtain rfl:=Option.some.inj hc;rfl
  ·cases hc
 ·split at hc
  ·obtain rfl:=Option.some.inj hc;rfl
  ·cases hc
theorem Agree.rd{P:Program}{ty:TypeId}{x:Operand}(hx:∀t,x=.tmp t->t∈ts):rd P e1 ty x=rd P e2 ty x:=by
 cases x with
 |tmp t=>
  show (e1.get t).data e1=(e2.get t).data e2;rw[<-h.tmp t (hx t rfl)];exact h.vdata (h.cl t (hx t rfl))
 |const v=>
  simp only[Go.Qz.rd]
  cases hc:zf4 P ty v with
  |none=>rfl
  |some a=>exact h.data (zlc hc)
 |_=>rfl
theorem Agree.rdO{P:Program}{ty:TypeId}{x:Option Operand}(hx:∀t,x=some (.tmp t)->t∈ts):rdO P e1 ty x=rdO P e2 ty x:=by
 cases x with
 |none=>rfl
 |some x=>
  simp only[Go.Qz.rdO];rw[h.rd (λt e=>hx t (by rw[e]))]
theorem Agree.live{a:A}(ha:a.clean ds=true)(hb:∀b o,a=.ptr b o->e1.box b=e2.box b):a.live e1=a.live e2:=by
 cases a with
 |eptr l z i o=>simp only[A.live,h.own l ha]
 |ptr b o=>simp only[A.live,hb b o rfl]
 |_=>rfl
theorem Agree.load{agg:Bool}{n:Nat}{a:A}(ha:a.clean ds=true)(hb:∀b o,a=.ptr b o->e1.box b=e2.box b):zf6 e1 agg n a=zf6 e2 agg n a:=by
 cases a with
 |eptr l z i o=>simp only[zf6,h.own l ha]
 |ptr b o=>simp only[zf6,hb b o rfl]
 |_=>rfl
theorem Agree.one{t:Nat}(ht:t∈ts){a:A}(ha:e1.get t=.one a):e2.get t=.one a/\a.clean ds=true/\ ∀b o,a=.ptr b o->e1.box b=e2.box b:=by
 have:=h.cl t ht;rw[ha]at this;exact⟨by rw[<-h.tmp t ht];exact ha,this,λb o e=>h.box t ht b o (by rw[ha,e])⟩
theorem Agree.pure{P:Program}{ty:TypeId}{op:Op}(hx:∀t∈zay op,t∈ts):zbe P e1 ty op=zbe P e2 ty op:=by
 cases op with
 |binOp op xt x y yt=>
  simp only[zbe];rw[h.rd (x:=x) (λt e=>hx t (by simp[zay,Op.operands,e])),h.rd (x:=y) (λt e=>hx t (by simp[zay,Op.operands,e]))]
 |unOp op xt x=>
  simp only[zbe];rw[h.rd (x:=x) (λt e=>hx t (by simp[zay,Op.operands,e]))]
 |convert s d x=>
  simp only[zbe];rw[h.rd (x:=x) (λt e=>hx t (by simp[zay,Op.operands,e]))]
 |pick c a b=>
  simp only[zbe];rw[h.rd (x:=c) (λt e=>hx t (by simp[zay,Op.operands,e])),h.rd (x:=a) (λt e=>hx t (by simp[zay,Op.operands,e])),h.rd (x:=b) (λt e=>hx t (by simp[zay,Op.operands,e]))]
 |nilCheck x=>
  cases x with
  |tmp t=>
   have ht:t∈ts:=hx t (by simp[zay,Op.operands])
   simp only[zbe]
   cases hV:e1.get t with
   |one a=>
    obtain⟨h2,ha,hb⟩:=h.one ht hV;rw[h2];simp only[h.live ha hb]
   |_=>rw[<-h.tmp t ht,hV]
  |_=>rfl
 |fieldAddr s x f=>
  cases x with
  |tmp t=>
   have ht:t∈ts:=hx t (by simp[zay,Op.operands])
   simp only[zbe]
   cases hV:e1.get t with
   |one a=>
    obtain⟨h2,ha,hb⟩:=h.one ht hV;rw[h2];simp only[h.live ha hb]
   |_=>rw[<-h.tmp t ht,hV]
  |_=>rfl
 |indexAddr s x i=>
  cases x with
  |tmp t=>
   have ht:t∈ts:=hx t (by simp[zay,Op.operands])
   simp only[zbe];rw[h.rd (x:=i) (λt e=>hx t (by simp[zay,Op.operands,e]))]
   cases hV:e1.get t with
   |one a=>
    obtain⟨h2,ha,hb⟩:=h.one ht hV;rw[h2];have hl:=h.live ha hb;simp only[hl]
    cases a with
    |view l=>simp only[h.own l ha]
    |ro d=>cases d<;>rfl
    |own d=>cases d<;>rfl
    |_=>rfl
   |_=>rw[<-h.tmp t ht,hV]
  |global q=>
   simp only[zbe];rw[h.rd (x:=i) (λt e=>hx t (by simp[zay,Op.operands,e]))]
  |_=>rfl
 |index s x i=>
  simp only[zbe];rw[h.rd (x:=i) (λt e=>hx t (by simp[zay,Op.operands,e])),h.rd (x:=x) (λt e=>hx t (by simp[zay,Op.operands,e]))]
 |field s x f=>
  simp only[zbe];rw[h.rd (x:=x) (λt e=>hx t (by simp[zay,Op.operands,e]))]
 |load s x=>
  cases x with
  |tmp t=>
   have ht:t∈ts:=hx t (by simp[zay,Op.operands])
   simp only[zbe]
   cases hV:e1.get t with
   |one a=>
    obtain⟨h2,ha,hb⟩:=h.one ht hV;rw[h2];simp only[h.load ha hb]
   |_=>rw[<-h.tmp t ht,hV]
  |_=>rfl
 |makeInterface s x=>
  simp only[zbe];rw[h.rd (x:=x) (λt e=>hx t (by simp[zay,Op.operands,e]))]
 |call c=>
  have harg:∀x∈c.args.toList,∀t,x=.tmp t->t∈ts:=λx hm t e=>hx t (by
   simp only[zay,Op.operands,Call.operands,List.mem_filterMap];refine⟨.tmp t,?_,rfl⟩;rw[<-e];simp only[Array.toList_append,List.mem_append]
   exact .inr hm)
  simp only[zbe];split
  ·rename_i x t hc ha _;rw[h.rd (x:=x) (harg x (by rw[ha];simp))]
  ·rename_i x y t u hc ha _;rw[h.rd (x:=x) (harg x (by rw[ha];simp)),h.rd (x:=y) (harg y (by rw[ha];simp))]
  ·rename_i x y t u hc ha _;rw[h.rd (x:=x) (harg x (by rw[ha];simp)),h.rd (x:=y) (harg y (by rw[ha];simp))]
  ·rename_i x y x3 x4 x5 t u t3 t4 t5 hc ha _;rw[h.rd (x:=x) (harg x (by rw[ha];simp)),h.rd (x:=y) (harg y (by rw[ha];simp)),h.rd (x:=x3) (harg x3 (by rw[ha];simp)),h.rd (x:=x4) (harg x4 (by rw[ha];simp)),h.rd (x:=x5) (harg x5 (by rw[ha];simp))]
  ·rfl
 |_=>rfl
theorem Agree.operand{P:Program}{ty:TypeId}{x:Operand}(hx:∀t,x=.tmp t->t∈ts):za4 P e1 ty x=za4 P e2 ty x:=by
 cases x with
 |tmp t=>simp only[za4,h.tmp t (hx t rfl)]
 |_=>rfl
theorem Agree.operandClean{P:Program}{ty:TypeId}{x:Operand}(hx:∀t,x=.tmp t->t∈ts){V:V}(hV:za4 P e1 ty x=some V):V.clean ds=true:=by
 cases x with
 |tmp t=>
  simp only[za4,Option.some.injEq]at hV;subst hV;exact h.cl t (hx t rfl)
 |const v=>
  simp only[za4]at hV;split at hV
  ·rename_i a ha;obtain rfl:=Option.some.inj hV;exact zlc ha
  ·cases hV
 |func f=>
  obtain rfl:=Option.some.inj hV;rfl
 |global n=>cases hV
theorem Agree.operands{P:Program}:∀{l:List (Operand×TypeId)},(∀p∈l,∀t,p.1=.tmp t->t∈ts)->za0 P e1 l=za0 P e2 l
 | [],_=>rfl
 |(x,ty)::r,hx=>by
  simp only[za0,h.operand (x:=x) (hx (x,ty) (by simp)),Agree.operands (l:=r) (λp hp=>hx p (by simp[hp]))]
theorem Agree.operandsClean{P:Program}:∀{l:List (Operand×TypeId)} {Vs:List V},(∀p∈l,∀t,p.1=.tmp t->t∈ts)->za0 P e1 l=some Vs-> ∀V∈Vs,V.clean ds=true
 | [],Vs,_,hV=>by
   obtain rfl:=Option.some.inj hV;intro V hV;cases hV
 |(x,ty)::r,Vs,hx,hV=>by
  simp only[za0]at hV;split at hV
  ·rename_i v hv;split at hV
   ·rename_i vs hvs;obtain rfl:=Option.some.inj hV;intro V hm;rcases List.mem_cons.1 hm with rfl|hm
    ·exact h.operandClean (x:=x) (hx (x,ty) (by simp)) hv
    ·exact Agree.operandsClean (l:=r) (λp hp=>hx p (by simp[hp])) hvs V hm
   ·cases hV
  ·cases hV
omit h in
theorem zge(e1 e2:Env)(n:Nat):∀(cs:List Cap) (k:Nat),zcp e1 n cs k=zcp e2 n cs k
 | [],_=>rfl
 | .ro d::r,k=>by simp only[zcp,zge e1 e2 n r (k+1)]
 | .ptr b::r,k=>by simp only[zcp,zge e1 e2 n r (k+1)]
theorem Agree.lend1{n:Nat}{w:Bool}{x:Option Nat}{V:V}(hV:V.clean ds=true):lend1 e1 n w x V=lend1 e2 n w x V:=by
 cases V with
 |one a=>
  cases a with
  |view l=>simp only[Go.Qz.lend1,h.own l hV]
  |pview l i k=>simp only[Go.Qz.lend1,h.own l hV]
  |fn f caps=>simp only[Go.Qz.lend1,zge e1 e2]
  |_=>rfl
 |agg as=>simp only[Go.Qz.lend1,h.datas hV]
 |tup as=>rfl
theorem Agree.lend{io:List Nat}:∀{l:List (V×Option Nat)} {n:Nat},(∀p∈l,p.1.clean ds=true)->lend e1 io n l=lend e2 io n l
 | [],_,_=>rfl
 |(v,x)::r,n,hl=>by
  simp only[Go.Qz.lend,h.lend1 (hl (v,x) (by simp)),Agree.lend (l:=r) (λp hp=>hl p (by simp[hp]))]
end
def zcn(P:Program)(io:FuncId->List Nat)(call:zai)(e:Env)(f:FuncId)(caps:List Cap)(args:List Operand)(tys:List TypeId):Option V:=
 if znh io f then none else if args.length=tys.length then match za0 P e (args.zip tys)with
  |some vs=>match lend e (io f) 0 (vs.zip (args.map zhn)++zb6 caps)with
   |some (as,m)=>if m.all Lent.isRead then match call f as []with
    |some (r,bx')=>if zm2 m r bx' then some r else none
    |none=>none
    else none
   |none=>none
  |none=>none
 else none
theorem zld:∀{m:List Lent},m.all Lent.isRead=true->zax m=true
 | [],_=>rfl
 |a::r,h=>by
  simp only[List.all_cons,Bool.and_eq_true]at h;simp only[zax,Bool.and_eq_true,List.all_eq_true];refine⟨⟨?_,λb hb=>?_⟩,zld h.2⟩
  ·cases a<;>first|rfl|simp[Lent.isRead]at h
  ·have hb':=List.all_eq_true.1 h.2 b hb;cases a<;>cases b<;>first|rfl|simp[Lent.isRead]at h hb'
theorem zjk{e:Env}:∀{m:List Lent},m.all Lent.isRead=true->zdq e m=true
 | [],_=>rfl
 |a::r,h=>by
  simp only[List.all_cons,Bool.and_eq_true]at h;cases a<;>first|exact zjk (m:=r) h.2|simp[Lent.isRead]at h
theorem zh0{e:Env}:∀{m:List Lent},m.all Lent.isRead=true->zar e m=some []
 | [],_=>rfl
 |a::r,h=>by
  simp only[List.all_cons,Bool.and_eq_true]at h;cases a<;>first|exact zh0 (m:=r) h.2|simp[Lent.isRead]at h
theorem zgf{e:Env}:∀{m:List Lent},m.all Lent.isRead=true->zbl e m=e
 | [],_=>rfl
 |a::r,h=>by
  simp only[List.all_cons,Bool.and_eq_true]at h;cases a<;>first|exact zgf (m:=r) h.2|simp[Lent.isRead]at h
theorem zjl{e:Env}{bx:zas}:∀{m:List Lent},m.all Lent.isRead=true->zbd e m bx=some e
 | [],_=>rfl
 |a::r,h=>by
  simp only[List.all_cons,Bool.and_eq_true]at h;cases a<;>first|exact zjl (m:=r) h.2|simp[Lent.isRead]at h
theorem zea{P:Program}{io:FuncId->List Nat}{call:zai}{e:Env}{f:FuncId}{caps:List Cap}{args:List Operand}{tys:List TypeId}{r:V}(h:zcn P io call e f caps args tys=some r):znh io f=false:=by
 unfold zcn at h;split at h
 ·cases h
 ·rename_i hn;simpa using hn
theorem zsq{P:Program}{io:FuncId->List Nat}{call:zai}{e:Env}{f:FuncId}{caps:List Cap}{args:List Operand}{tys:List TypeId}{r:V}(h:zcn P io call e f caps args tys=some r):
 ze4 P io call e f caps args tys=some (r,e):=by
 have hno:=zea h;unfold zcn at h;rw[hno]at h;simp only[Bool.false_eq_true,if_false]at h;split at h
 ·rename_i hlen;split at h
  ·rename_i vs hvs;split at h
   ·rename_i as m hl;split at h
    ·rename_i hm;split at h
     ·rename_i r' bx' hc;split at h
      ·rename_i hok;obtain rfl:=Option.some.inj h
       have hp:zhp P io e f caps args tys=some (as,m,[]):=by
        simp[zhp,hlen,hvs,hl,zld hm,zjk hm,zh0 hm]
       simp[ze4,hp,hc,hok,zdf,zgf hm,zjl hm]
      ·cases h
     ·cases h
    ·cases h
   ·cases h
  ·cases h
 ·cases h
def znj(P:Program)(ty:TypeId)(e:Env):Operand->Option D
 | .tmp t=>match e.get t with
   | .one (.ro d)=>if d.flat then some d else none
   |_=>none
 | .const v=>match zf4 P ty v with
   |some a=>a.inner
   |none=>none
 |_=>none
def ze0(P:Program)(ty:TypeId)(e:Env):List Operand->Option (List D)
 | []=>some []
 |x::r=>match znj P ty e x with
  |some d=>match ze0 P ty e r with
   |some ds=>some (d::ds)
   |none=>none
  |none=>none
theorem ziq{P:Program}{ty:TypeId}{e:Env}:∀{l:List Operand} {ds:List D},ze0 P ty e l=some ds->zce P ty e l=some (ds,e)
 | [],ds,h=>by
   obtain rfl:=Option.some.inj h;rfl
 |x::r,ds,h=>by
  simp only[ze0]at h;split at h
  ·rename_i d hd;split at h
   ·rename_i ds' hds;obtain rfl:=Option.some.inj h
    have hx:∃v,take P e ty x=some (v,e)/\v.inner=some d:=by
     unfold znj at hd;split at hd
     ·rename_i t;split at hd
      ·rename_i d' hg;split at hd
       ·rename_i hf;obtain rfl:=Option.some.inj hd;exact⟨.one (.ro d'),by simp[take,hg,zez],by simp[V.inner,A.inner,hf]⟩
       ·cases hd
      ·cases hd
     ·rename_i v;split at hd
      ·rename_i a ha;exact⟨.one a,by simp[take,ha],hd⟩
      ·cases hd
     ·cases hd
    obtain⟨v,hv,hi⟩:=hx;simp only[zce,hv,hi,ziq hds]
   ·cases h
  ·cases h
def zh1(e:Env):Operand->Bool
 | .tmp t=>(zsm e t).isNone
 |_=>true
theorem zm3{e:Env}{x:Operand}(h:zh1 e x=true):zcd e x=e:=by
 cases x with
 |tmp t=>
  simp only[zh1,Option.isNone_iff_eq_none]at h;simp only[zcd,h]
 |_=>rfl
def ze5(P:Program)(ds:List Nat)(e:Env)(t u:TypeId)(x:Nat)(y:Operand):Option (V×Option Nat):=
 if ds.contains x then match e.get x with
  | .one (.own (.sl z' xs))=>match zOf P t with
    |some z=>match rd P e u y with
     |some (.sl z2 ys)=>if z2=z&&zOf P u=some z&&flats ys&&z' =z&&xs.length+ys.length<=zaf then some (.one (.own (.sl z (xs++ys))),some x)else none
     |some (.str s)=>if z=1&&zyt P u&&z' =1&&xs.length+(za2 s).length<=zaf then some (.one (.own (.sl 1 (xs++za2 s))),some x)else none
     |_=>none
    |none=>none
  |_=>none
 else none
def zhq(x:Option V):Option (V×Option Nat):=match x with
 |some v=>some (v,none)
 |none=>none
def zbs(P:Program)(e:Env)(ty:TypeId)(x:Operand):Option (V×Option Nat):=match x with
 | .tmp t=>match e.get t with
   | .one (.own _)=>some (.one (.view ⟨.tmp t,[]⟩),none)
   | .one .dead=>none
   | .one a=>some (.one a,none)
   | .tup as=>if as.all A.isRo then some (.tup as,none)else none
   |_=>none
 | .const v=>match zf4 P ty v with
   |some a=>some (.one a,none)
   |none=>none
 | .func f=>some (.one (.fn f []),none)
 | .global _=>none
def zpw(e:Env)(x:Operand)(i:Nat):Option (V×Option Nat):=match x with
 | .tmp t=>match e.get t with
   | .tup as=>match as[i]? with
     |some a=>if a.isRo then some (.one a,none)else none
     |none=>none
   |_=>none
 |_=>none
def mvOp:Op->Op
 | .assign x=>.move x
 |op=>op
def za6(P:Program)(io:FuncId->List Nat)(call:zai)(ds:List Nat)(e:Env)(ty:TypeId)(op:Op):Option (V×Option Nat):=
 match op with
 | .move x| .assign x=>zbs P e ty x
 | .extract x i=>zpw e x i
 | .slice t x lo hi mx=>match mx with
   |some _=>none
   |none=>match zfo e x with
    |some pl=>zhq (zgc P e t x lo hi pl)
    |none=>if zh1 e x then match rdO P e 0 lo,rdO P e 0 hi with
     |some l,some h=>match rd P e t x with
      |some (.str s)=>match P.underlying t with
       |some .string=>match zbb s.size l h with
        |some (i,j)=>some (.one (.ro (.str (s.extract i j))),none)
        |none=>none
       |_=>none
      |some (.sl z xs)=>if zOf P t=some z then match zbb xs.length l h with
       |some (i,j)=>some (.one (.ro (.sl z ((xs.take j).drop i))),none)
       |none=>none
       else none
      |_=>none
     |_,_=>none
     else none
 | .buildSlice t n parts=>match P.underlying t with
   |some (.slice el)=>match zij P el with
    |some z=>if zjh 0 parts.toList&&parts.size=n&&n*z<=1000 then match ze0 P el e (parts.toList.map (·.2))with
     |some xs=>if xs.all (λd=>d.cells.length=z)then some (.one (.own (.sl z xs)),none)else none
     |none=>none
     else none
    |none=>none
   |_=>none
 | .build t parts=>match zhm P t with
   |some cs=>if zim P t&&cs.all A.portable then match zj6 P t e cs parts.toList with
    |some as=>match zpr as with
     | .one (.ro d)=>some (.one (.ro d),none)
     |_=>none
    |none=>none
    else none
   |none=>none
 | .convert s d x=>match zik P s d,rd P e s x with
   |true,some (.str s)=>if s.size<=zag then some (.one (.own (.sl 1 (za2 s))),none)else none
   |_,_=>zhq (zbe P e ty op)
 | .call c=>match c.callee with
   | .builtin .append=>match c.args.toList,c.argTypes.toList with
     | [.tmp x,y],[t,u]=>ze5 P ds e t u x y
     |_,_=>none
   | .builtin _=>zhq (zbe P e ty op)
   | .value f=>match zhz (za4 P e 0 f)with
     |some (.one (.fn f caps))=>zhq (zcn P io call e f caps c.args.toList c.argTypes.toList)
     |_=>none
   | .invoke ..=>none
 | .binOp ..| .unOp ..| .pick ..| .nilCheck ..| .fieldAddr ..| .indexAddr ..| .index ..| .field ..| .load ..| .makeInterface ..=>zhq (zbe P e ty op)
 |_=>none
def Env.eat(e:Env):Option Nat->Env
 |some t=>e.set0 t .dead
 |none=>e
theorem zfq{x:Option V}{v:V}{t:Option Nat}(h:zhq x=some (v,t)):x=some v/\t=none:=by
 cases x with
 |none=>cases h
 |some u=>
  simp only[zhq,Option.some.injEq,Prod.mk.injEq]at h;exact⟨by rw[h.1],h.2.symm⟩
theorem z5f{P:Program}{io:FuncId->List Nat}{call:zai}{ds:List Nat}{e:Env}{o:Oper}{v:V}{t:Option Nat}(h:za6 P io call ds e o.type o.op=some (v,t)):
 evOp P io call e {o with op:=mvOp o.op}=zap (e.eat t) o.dst v:=by
 obtain⟨dst,op,ty,pos,after,guard⟩:=o;dsimp only at h ⊢
 have plain:zhq (zbe P e ty op)=some (v,t)->(match zbe P e ty op with|some v=>zap e dst v|none=>none)=zap (e.eat t) dst v:=by
  intro h;obtain⟨h1,rfl⟩:=zfq h;rw[h1];rfl
 have mv:∀x,zbs P e ty x=some (v,t)->evOp P io call e {dst:=dst,op:=.move x,type:=ty,pos:=pos,after:=after,guard:=guard}=zap (e.eat t) dst v:=by
  intro x h;simp only[evOp]
  cases x with
  |tmp x=>
   simp only[zbs]at h;dsimp only;split at h
   ·rename_i d hd;simp only[Option.some.injEq,Prod.mk.injEq]at h;obtain⟨rfl,rfl⟩:=h;simp only[hd];rfl
   ·cases h
   ·rename_i a hna _ ha;simp only[Option.some.injEq,Prod.mk.injEq]at h;obtain⟨rfl,rfl⟩:=h;rw[ha]
    cases a with
    |own d=>exact absurd rfl (hna d)
    |_=>rfl
   ·rename_i us hus;split at h
    ·rename_i hro;simp only[Option.some.injEq,Prod.mk.injEq]at h;obtain⟨rfl,rfl⟩:=h;rw[hus];simp only[hro,if_true];rfl
    ·cases h
   ·cases h
  |const c=>
   simp only[zbs]at h;dsimp only;split at h
   ·rename_i a ha;simp only[Option.some.injEq,Prod.mk.injEq]at h;obtain⟨rfl,rfl⟩:=h;simp only[take,ha];rfl
   ·cases h
  |func f=>
   simp only[zbs,Option.some.injEq,Prod.mk.injEq]at h;obtain⟨rfl,rfl⟩:=h;rfl
  |global n=>cases h
 cases op with
 |move x=>exact mv x h
 |assign x=>exact mv x h
 |extract x i=>
  simp only[za6,zpw]at h;simp only[evOp,mvOp]
  cases x with
  |tmp t' =>
   dsimp only at h ⊢;split at h
   ·rename_i us hus;split at h
    ·rename_i p hp;split at h
     ·rename_i hro;simp only[Option.some.injEq,Prod.mk.injEq]at h;obtain⟨rfl,rfl⟩:=h;simp only[hus,hp,hro,if_true];rfl
     ·cases h
    ·cases h
   ·cases h
  |_=>cases h
 |slice s x lo hi mx=>
  simp only[za6]at h;simp only[evOp,mvOp]
  cases mx with
  |some _=>cases h
  |none=>
   dsimp only at h ⊢;split at h
   ·rename_i pl hpl;obtain⟨h1,rfl⟩:=zfq h;simp only[hpl,h1];rfl
   rename_i hpl;simp only[hpl];split at h
   ·rename_i hlo;rw[zm3 hlo];split at h
    ·rename_i l hh h1 h2;simp only[h1,h2];split at h
     ·rename_i s' hs;split at h
      ·rename_i hu;split at h
       ·rename_i i j hij;simp only[Option.some.injEq,Prod.mk.injEq]at h;obtain⟨rfl,rfl⟩:=h;simp only[hs,hu,hij];rfl
       ·cases h
      ·cases h
     ·rename_i z xs hs;split at h
      ·rename_i hz;split at h
       ·rename_i i j hij;simp only[Option.some.injEq,Prod.mk.injEq]at h;obtain⟨rfl,rfl⟩:=h;simp only[hs,hz,if_true,hij];rfl
       ·cases h
      ·cases h
     ·cases h
    ·cases h
   ·cases h
 |buildSlice s n parts=>
  simp only[za6]at h;simp only[evOp,mvOp];split at h
  ·rename_i el hu;split at h
   ·rename_i z hz;split at h
    ·rename_i hin;split at h
     ·rename_i xs hxs;split at h
      ·rename_i hall;simp only[Option.some.injEq,Prod.mk.injEq]at h;obtain⟨rfl,rfl⟩:=h;simp only[hu,hz,hin,if_true,ziq hxs,hall];rfl
      ·cases h
     ·cases h
    ·cases h
   ·cases h
  ·cases h
 |convert s d x=>
  simp only[za6]at h;simp only[evOp,mvOp];split at h
  ·rename_i h1 h2;split at h
   ·rename_i hs;simp only[Option.some.injEq,Prod.mk.injEq]at h;obtain⟨rfl,rfl⟩:=h;simp only[h1,h2,hs,if_true];rfl
   ·cases h
  ·rename_i hno;have hp:=plain h;rw[<-hp];split
   ·rename_i h1 h2;exact absurd h2 (hno _ h1)
   ·rfl
 |call c=>
  obtain⟨callee,args,argTypes⟩:=c
  cases callee with
  |builtin b=>
   cases b with
   |append=>
    simp only[za6]at h;simp only[evOp,mvOp];split at h
    ·rename_i x y s u ha ht;unfold ze5 at h;split at h
     ·split at h
      ·rename_i z' xs hg;split at h
       ·rename_i z hz;split at h
        ·rename_i z2 ys hy;split at h
         ·rename_i hc;simp only[Bool.and_eq_true,decide_eq_true_eq]at hc;obtain⟨⟨⟨⟨rfl,hzu⟩,hf⟩,rfl⟩,hle⟩:=hc;simp only[Option.some.injEq,Prod.mk.injEq]at h;obtain⟨rfl,rfl⟩:=h;simp only[ha,ht,zg4,hz,hy,hzu,hf,decide_true,Bool.and_self,if_true,zdu,take,hg,hle];rfl
         ·cases h
        ·rename_i s' hy;split at h
         ·rename_i hc;simp only[Bool.and_eq_true,decide_eq_true_eq]at hc;obtain⟨⟨⟨rfl,hzu⟩,rfl⟩,hle⟩:=hc;simp only[Option.some.injEq,Prod.mk.injEq]at h;obtain⟨rfl,rfl⟩:=h;simp only[ha,ht,zg4,hz,hy,hzu,decide_true,Bool.and_self,if_true,zku,z2r,V.isBs,A.isBs,Bool.false_eq_true,if_false,zdu,take,hg,hle];rfl
         ·cases h
        ·cases h
       ·cases h
      ·cases h
     ·cases h
    ·cases h
   |_=>
    simp only[evOp,mvOp];exact plain (by simpa only[za6]using h)
  |value f=>
   simp only[za6]at h;simp only[evOp,mvOp];split at h
   ·rename_i f' caps hf;obtain⟨h1,rfl⟩:=zfq h;simp only[hf,zea h1,zsq h1,Bool.false_eq_true,if_false];rfl
   ·cases h
  |invoke r m=>simp only[za6]at h;cases h
 |build s parts=>
  simp only[za6]at h;simp only[evOp,mvOp];split at h
  ·rename_i cs hcs;split at h
   ·rename_i hc;rw[hcs];dsimp only;rw[if_pos hc];split at h
    ·rename_i as has;rw[zpu has];dsimp only;split at h
     ·rename_i d hd;simp only[Option.some.injEq,Prod.mk.injEq]at h;obtain⟨rfl,rfl⟩:=h;rw[hd];rfl
     ·cases h
    ·cases h
   ·cases h
  ·cases h
 |binOp a b c d e' =>exact plain h
 |unOp a b c=>exact plain h
 |pick a b c=>exact plain h
 |nilCheck a=>exact plain h
 |fieldAddr a b c=>exact plain h
 |indexAddr a b c=>exact plain h
 |index a b c=>exact plain h
 |field a b c=>exact plain h
 |load a b=>exact plain h
 |makeInterface a b=>exact plain h
 |_=>simp only[za6]at h;cases h
end Go.Qz
