import Derived.Test.YtcadiohekccmiaaGreatDoorQb1
namespace Go.Qz
variable{ds:List Nat}{e1 e2:Env}{ts:List Nat}
theorem Agree.quiet(h:Agree ds e1 e2 ts){P:Program}{io:FuncId->List Nat}{call:zal}{f:FuncId}{caps:List Cap}{args:List Operand}{tys:List TypeId}(hx:∀x∈args,∀t,x=.tmp t->t∈ts):
 zcx P io call e1 f caps args tys=zcx P io call e2 f caps args tys:=by
 have hz:∀p∈args.zip tys,∀t,p.1=.tmp t->t∈ts:=λp hp t e=>hx p.1 (List.of_mem_zip hp).1 t e
 unfold zcx;rw[h.operands hz]
 cases hv:za9 P e2 (args.zip tys)with
 |none=>rfl
 |some vs=>
  have hcl:=h.operandsClean hz (by rw[h.operands hz];exact hv)
  have hl:∀p∈vs.zip (args.map zi2)++zcj caps,p.1.clean ds=true:=by
   intro p hp;rcases List.mem_append.1 hp with hp|hp
   ·exact hcl _ (List.of_mem_zip hp).1
   ·simp only[zcj,List.mem_map]at hp;obtain⟨c,_,rfl⟩:=hp;cases c<;>rfl
  dsimp only;rw[h.lend hl]
theorem Agree.part(h:Agree ds e1 e2 ts){P:Program}{ty:TypeId}{x:Operand}(hx:∀t,x=.tmp t->t∈ts):zpk P ty e1 x=zpk P ty e2 x:=by
 cases x with
 |tmp t=>simp only[zpk,h.tmp t (hx t rfl)]
 |_=>rfl
theorem Agree.parts(h:Agree ds e1 e2 ts){P:Program}{ty:TypeId}:∀{l:List Operand},(∀x∈l,∀t,x=.tmp t->t∈ts)->zfy P ty e1 l=zfy P ty e2 l
 | [],_=>rfl
 |x::r,hx=>by
  simp only[zfy,h.part (hx x (by simp)),Agree.parts h (l:=r) (λy hy=>hx y (by simp[hy]))]
theorem Agree.loose(h:Agree ds e1 e2 ts){x:Operand}(hx:∀t,x=.tmp t->t∈ts):zjh e1 x=zjh e2 x:=by
 cases x with
 |tmp t=>simp only[zjh,zvp,h.tmp t (hx t rfl)]
 |_=>rfl
theorem Agree.roOp(h:Agree ds e1 e2 ts){P:Program}{ty:TypeId}{x:Operand}(hx:∀t,x=.tmp t->t∈ts):Go.Qz.roOp P e1 ty x=Go.Qz.roOp P e2 ty x:=by
 cases x with
 |tmp t=>simp only[Go.Qz.roOp,h.tmp t (hx t rfl)]
 |_=>rfl
theorem zpl{e1 e2:Env}{P:Program}{ty:TypeId}{x:Operand}(hx:∀t,x=.tmp t->e1.get t=e2.get t):zb6 P e1 ty x=zb6 P e2 ty x:=by
 cases x with
 |tmp t=>simp only[zb6,hx t rfl]
 |_=>rfl
theorem Agree.move(h:Agree ds e1 e2 ts){P:Program}{ty:TypeId}{x:Operand}(hx:∀t,x=.tmp t->t∈ts):zb6 P e1 ty x=zb6 P e2 ty x:=zpl (λt e=>h.tmp t (hx t e))
theorem Agree.calm(h:Agree ds e1 e2 ts){P:Program}{io:FuncId->List Nat}{call:zal}{ty:TypeId}{op:Op}(hx:∀t∈za6 op,t∈ts):zbh P io call ds e1 ty op=zbh P io call ds e2 ty op:=by
 have hp:=h.pure (P:=P) (ty:=ty) hx
 cases op with
 |move x=>exact h.move (λt e=>hx t (by simp[za6,Op.operands,e]))
 |assign x=>exact h.move (λt e=>hx t (by simp[za6,Op.operands,e]))
 |extract x i=>
  cases x with
  |tmp t=>simp only[zbh,zse,h.tmp t (hx t (by simp[za6,Op.operands]))]
  |_=>rfl
 |slice s x lo hi mx=>
  cases mx with
  |some m=>rfl
  |none=>
   simp only[zbh];have h1:∀t,x=.tmp t->t∈ts:=λt e=>hx t (by subst e;cases lo<;>cases hi<;>simp[za6,Op.operands])
   have h2:∀t,lo=some (.tmp t)->t∈ts:=λt e=>hx t (by subst e;cases hi<;>simp[za6,Op.operands])
   have h3:∀t,hi=some (.tmp t)->t∈ts:=λt e=>hx t (by subst e;cases lo<;>simp[za6,Op.operands])
   have h4:zgp e1 x=zgp e2 x:=by
    cases x with
    |tmp t=>simp only[zgp,h.tmp t (h1 t rfl)]
    |_=>rfl
   have h5:∀pl,zho P e1 s x lo hi pl=zho P e2 s x lo hi pl:=λpl=>by
    unfold zho;rw[h.rd h1,h.rdO h2,h.rdO h3]
   rw[h.loose h1,h.rd h1,h.rdO h2,h.rdO h3,h4];simp only[h5]
 |buildSlice s n parts=>
  have hps:∀el,zfy P el e1 (parts.toList.map (·.2))=zfy P el e2 (parts.toList.map (·.2)):=λel=>h.parts (λx hm t e=>hx t (by
   simp only[za6,Op.operands,List.mem_filterMap];refine⟨.tmp t,?_,rfl⟩;rw[<-e]
   simpa using hm))
  simp only[zbh,hps]
 |build s parts=>
  have hro:∀(ps:List (Nat×Operand)),(∀p∈ps,∀t,p.2=.tmp t->t∈ts)-> ∀cs,zlv P s e1 cs ps=zlv P s e2 cs ps:=by
   intro ps
   induction ps with
   |nil=>intro _ cs;rfl
   |cons p r ih=>
    intro hp cs;obtain⟨i,x⟩:=p;have hx:∀ty,Go.Qz.roOp P e1 ty x=Go.Qz.roOp P e2 ty x:=λty=>h.roOp (hp (i,x) List.mem_cons_self)
    simp only[zlv,hx,ih (λq hq=>hp q (List.mem_cons_of_mem _ hq))]
  simp only[zbh,hro parts.toList (λp hm t e=>hx t (by
   simp only[za6,Op.operands,List.mem_filterMap];refine⟨.tmp t,?_,rfl⟩;rw[<-e];simp only[List.mem_map]
   exact⟨p,hm,rfl⟩))]
 |convert s d x=>
  simp only[zbh];rw[h.rd (x:=x) (λt e=>hx t (by simp[za6,Op.operands,e])),hp]
 |call c=>
  obtain⟨callee,args,argTypes⟩:=c
  have harg:∀x∈args.toList,∀t,x=.tmp t->t∈ts:=λx hm t e=>hx t (by
   simp only[za6,Op.operands,Call.operands,List.mem_filterMap];refine⟨.tmp t,?_,rfl⟩;rw[<-e];simp only[Array.toList_append,List.mem_append]
   exact .inr hm)
  cases callee with
  |builtin b=>
   cases b with
   |append=>
    simp only[zbh];split
    ·rename_i x y s u ha _;unfold zf2;rw[h.tmp x (harg _ (by rw[ha];simp) x rfl),h.rd (x:=y) (harg y (by rw[ha];simp))]
    ·rfl
   |_=>simp only[zbh,hp]
  |value f=>
   simp only[zbh];rw[h.operand (x:=f) (λt e=>hx t (by simp[za6,Op.operands,Call.operands,e]))]
   split
   ·rw[h.quiet harg]
   ·rfl
  |invoke r m=>rfl
 |binOp a b c d e' =>simp only[zbh,hp]
 |unOp a b c=>simp only[zbh,hp]
 |pick a b c=>simp only[zbh,hp]
 |nilCheck a=>simp only[zbh,hp]
 |fieldAddr a b c=>simp only[zbh,hp]
 |indexAddr a b c=>simp only[zbh,hp]
 |index a b c=>simp only[zbh,hp]
 |field a b c=>simp only[zbh,hp]
 |load a b=>simp only[zbh,hp]
 |makeInterface a b=>simp only[zbh,hp]
 |_=>rfl
def fitD:Option Nat->Op->Bool
 |some _,.store ..=>false
 |_,_=>true
def wrV(P:Program)(io:FuncId->List Nat)(call:zal)(ds:List Nat)(e:Env)(op:Op):Option (V×Nat×List A):=match op with
 | .call c=>match c.callee with
   | .value f=>match zbd P e 0 f with
     |some (.one (.fn f []))=>if zfn io f then none else if c.args.toList.length=c.argTypes.toList.length then match za9 P e (c.args.toList.zip c.argTypes.toList)with
      |some vs=>match lend e (io f) 0 (vs.zip (c.args.toList.map zi2))with
       |some (as,.box n b::m)=>if m.all Lent.isRead&&za5 (.box n b::m)&&ds.contains (zbf b)then match e.box b with
        |some cs0=>if cs0.all A.portable then match call f as [(n,cs0)]with
         |some (r,bx')=>match zbe n bx' with
          |some cs=>if zox (.box n b::m) r bx' &&decide (cs.length=cs0.length)then some (r,b,cs)else none
          |none=>none
         |none=>none
         else none
        |none=>none
        else none
       |_=>none
      |none=>none
      else none
     |_=>none
   |_=>none
 | .store t (.tmp a) x=>match zbq P t,roOp P e t x,e.get a with
   |some n,some v,.one (.ptr b o)=>if decide (b<zaf)&&ds.contains (zbf b)then match e.box b with
    |some cs=>match(V.one v).cellsA with
     |some as=>if as.all A.isRo&&(decide (as.length=n)&&decide (o+n<=cs.length)&&as.all A.portable)then some (V.undef,b,zcs cs o as)else none
     |none=>none
    |none=>none
    else none
   |_,_,_=>none
 |_=>none
theorem zsf{e:Env}{b:Nat}:∀{as:List A} {cs:List A} {o:Nat},as.all A.isRo=true->e.box b=some cs->zhf e b o as=e.setBox b (zcs cs o as)
 | [],cs,o,_,hb=>by
   obtain⟨n,t,bx⟩:=e;simp only[zhf,zcs,Env.setBox];congr 1;funext x;split
   ·rename_i hx;subst hx;exact hb
   ·rfl
 |a::r,cs,o,h,hb=>by
  rw[List.all_cons,Bool.and_eq_true]at h;have h1:e.setRoot (.cell b o) a=e.setBox b (cs.set o a):=by simp only[Env.setRoot,hb]
  have h2:zhf e b o (a::r)=zhf (e.setRoot (.cell b o) a) b (o+1) r:=by
   cases a with
   |ro d=>rfl
   |_=>exact absurd h.1 (by simp[A.isRo])
  rw[h2,h1,zsf h.2 (show (e.setBox b (cs.set o a)).box b=some (cs.set o a) by simp[Env.box,Env.setBox]),zcs]
  obtain⟨n,t,bx⟩:=e;simp only[Env.setBox];congr 1;funext x;split<;>rfl
theorem yde{P:Program}{io:FuncId->List Nat}{call:zal}{ds:List Nat}{e:Env}{o:Oper}{r:V}{b:Nat}{cs:List A}(h:wrV P io call ds e o.op=some (r,b,cs)):
 (evOp P io call e o=zas ((((e.mapA (A.killIn b)).mapA (A.killIn b)).setBox b cs)) o.dst r∨(fitD o.dst o.op=true->evOp P io call e o=zas (e.setBox b cs) o.dst r))/\ds.contains (zbf b)=true:=by
 obtain⟨dst,op,ty,pos,after,guard⟩:=o;dsimp only at h ⊢;unfold wrV at h;split at h
 rotate_left
 ·rename_i t a x;split at h
  ·rename_i n v b' o' hn hv ha;split at h
   ·rename_i hc;simp only[Bool.and_eq_true,decide_eq_true_eq]at hc;split at h
    ·rename_i cs0 hb;split at h
     ·rename_i as has;split at h
      ·rename_i hcc;simp only[Bool.and_eq_true,decide_eq_true_eq]at hcc;simp only[Option.some.injEq,Prod.mk.injEq]at h;obtain⟨rfl,rfl,rfl⟩:=h;refine⟨.inr (λhf=>?_),hc.2⟩
       cases dst with
       |some d=>cases hf
       |none=>
        simp only[evOp,Option.isNone_none,if_true,hn,zsc hv,ha,zmz,hc.1,hb,has];rw[if_pos (by simp only[Bool.and_eq_true,decide_eq_true_eq];exact⟨⟨hcc.2.1.1,hcc.2.1.2⟩,hcc.2.2⟩),zsf hcc.1 hb]
        rfl
      ·cases h
     ·cases h
    ·cases h
   ·cases h
  ·cases h
 ·cases h
 ·rename_i c;split at h
  ·rename_i f hcal;split at h
   ·rename_i f' hf;split at h
    ·cases h
    ·rename_i hop;split at h
     ·rename_i hlen;split at h
      ·rename_i vs hvs;split at h
       ·rename_i as n b' m hl;split at h
        ·rename_i hc;simp only[Bool.and_eq_true]at hc;obtain⟨⟨hm,hap⟩,hds⟩:=hc;split at h
         ·rename_i cs0 hb;split at h
          ·rename_i hpo;split at h
           ·rename_i r' bx' hcall;split at h
            ·rename_i cs' hg;split at h
             ·rename_i hok;simp only[Bool.and_eq_true,decide_eq_true_eq]at hok;simp only[Option.some.injEq,Prod.mk.injEq]at h;obtain⟨rfl,rfl,rfl⟩:=h;refine⟨.inl ?_,hds⟩
              have hp:zi7 P io e f' [] c.args.toList c.argTypes.toList=some (as,.box n b' ::m,[(n,cs0)]):=by
               unfold zi7;rw[if_pos hlen,hvs];dsimp only;rw[show zcj []=[]from rfl,List.append_nil,hl]
               dsimp only;rw[hap,show zei e (.box n b' ::m)=zei e m from rfl,zk6 hm]
               have hbx:zau e (.box n b' ::m)=some [(n,cs0)]:=by
                unfold zau;rw[hb];dsimp only;rw[if_pos hpo,zjg hm]
               rw[hbx];rfl
              have hgb:zd5 e (.box n b' ::m) bx' =some ((((e.mapA (A.killIn b')).mapA (A.killIn b')).setBox b' cs')):=by
               unfold zd5 zbz;rw[hb];dsimp only;rw[zhr hm];unfold zbs;rw[hg];have hb2:((e.mapA (A.killIn b')).setBox b' (cs0.map λ_=>A.dead)).box b' =some (cs0.map λ_=>A.dead):=by simp[Env.box,Env.setBox]
               rw[hb2];dsimp only;rw[List.length_map,if_pos hok.2,zk7 hm];refine congrArg some (?_:Env.mk _ _ _=Env.mk _ _ _);congr 1;funext x;dsimp only[Env.mapA,Env.setBox];split<;>rfl
              unfold evOp;dsimp only;rw[hcal];dsimp only;rw[hf,zk3];dsimp only;rw[if_neg hop];unfold zf1;rw[hp];dsimp only;rw[hcall];dsimp only;rw[if_pos hok.1,hgb]
             ·cases h
            ·cases h
           ·cases h
          ·cases h
         ·cases h
        ·cases h
       ·cases h
      ·cases h
     ·cases h
   ·cases h
  ·cases h
theorem Agree.wr(h:Agree ds e1 e2 ts)(hb:∀b,e1.box b=e2.box b){P:Program}{io:FuncId->List Nat}{call:zal}{op:Op}(hx:∀t∈za6 op,t∈ts):wrV P io call ds e1 op=wrV P io call ds e2 op:=by
 unfold wrV;split
 ·rename_i c;obtain⟨callee,args,argTypes⟩:=c
  have harg:∀x∈args.toList,∀t,x=.tmp t->t∈ts:=λx hm t e=>hx t (by
   simp only[za6,Op.operands,Call.operands,List.mem_filterMap];refine⟨.tmp t,?_,rfl⟩;rw[<-e];simp only[Array.toList_append,List.mem_append]
   exact .inr hm)
  cases callee with
  |value f=>
   dsimp only;rw[h.operand (x:=f) (λt e=>hx t (by simp[za6,Op.operands,Call.operands,e]))]
   have hz:∀p∈args.toList.zip argTypes.toList,∀t,p.1=.tmp t->t∈ts:=λp hp t e=>harg p.1 (List.of_mem_zip hp).1 t e
   rw[h.operands hz];split
   ·split
    ·rfl
    ·split
     ·cases hv:za9 P e2 (args.toList.zip argTypes.toList)with
      |none=>rfl
      |some vs=>
       have hcl:=h.operandsClean hz (by rw[h.operands hz];exact hv)
       dsimp only;rw[h.lend (l:=vs.zip (args.toList.map zi2)) (λp hp=>hcl _ (List.of_mem_zip hp).1)]
       split
       ·rw[hb]
       ·rfl
     ·rfl
   ·rfl
  |_=>rfl
 ·rename_i t a x;rw[h.roOp (x:=x) (λt e=>hx t (by simp[za6,Op.operands,e])),h.tmp a (hx a (by simp[za6,Op.operands]))]
  simp only[hb]
 ·rfl
end Go.Qz
