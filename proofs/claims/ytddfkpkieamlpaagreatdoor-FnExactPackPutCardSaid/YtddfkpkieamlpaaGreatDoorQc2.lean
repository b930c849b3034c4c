import Derived.Test.YtddfkpkieamlpaaGreatDoorQc1
namespace Go.Qz
variable{ds:List Nat}{e1 e2:Env}{ts:List Nat}
theorem Agree.quiet(h:Agree ds e1 e2 ts){P:Program}{io:FuncId->List Nat}{call:zai}{f:FuncId}{caps:List Cap}{args:List Operand}{tys:List TypeId}(hx:∀x∈args,∀t,x=.tmp t->t∈ts):
 zcn P io call e1 f caps args tys=zcn P io call e2 f caps args tys:=by
 have hz:∀p∈args.zip tys,∀t,p.1=.tmp t->t∈ts:=λp hp t e=>hx p.1 (List.of_mem_zip hp).1 t e
 unfold zcn;rw[h.operands hz]
 cases hv:za0 P e2 (args.zip tys)with
 |none=>rfl
 |some vs=>
  have hcl:=h.operandsClean hz (by rw[h.operands hz];exact hv)
  have hl:∀p∈vs.zip (args.map zhn)++zb6 caps,p.1.clean ds=true:=by
   intro p hp;rcases List.mem_append.1 hp with hp|hp
   ·exact hcl _ (List.of_mem_zip hp).1
   ·simp only[zb6,List.mem_map]at hp;obtain⟨c,_,rfl⟩:=hp;cases c<;>rfl
  dsimp only;rw[h.lend hl]
theorem Agree.part(h:Agree ds e1 e2 ts){P:Program}{ty:TypeId}{x:Operand}(hx:∀t,x=.tmp t->t∈ts):znj P ty e1 x=znj P ty e2 x:=by
 cases x with
 |tmp t=>simp only[znj,h.tmp t (hx t rfl)]
 |_=>rfl
theorem Agree.parts(h:Agree ds e1 e2 ts){P:Program}{ty:TypeId}:∀{l:List Operand},(∀x∈l,∀t,x=.tmp t->t∈ts)->ze0 P ty e1 l=ze0 P ty e2 l
 | [],_=>rfl
 |x::r,hx=>by
  simp only[ze0,h.part (hx x (by simp)),Agree.parts h (l:=r) (λy hy=>hx y (by simp[hy]))]
theorem Agree.loose(h:Agree ds e1 e2 ts){x:Operand}(hx:∀t,x=.tmp t->t∈ts):zh1 e1 x=zh1 e2 x:=by
 cases x with
 |tmp t=>simp only[zh1,zsm,h.tmp t (hx t rfl)]
 |_=>rfl
theorem Agree.roOp(h:Agree ds e1 e2 ts){P:Program}{ty:TypeId}{x:Operand}(hx:∀t,x=.tmp t->t∈ts):Go.Qz.roOp P e1 ty x=Go.Qz.roOp P e2 ty x:=by
 cases x with
 |tmp t=>simp only[Go.Qz.roOp,h.tmp t (hx t rfl)]
 |_=>rfl
theorem znk{e1 e2:Env}{P:Program}{ty:TypeId}{x:Operand}(hx:∀t,x=.tmp t->e1.get t=e2.get t):zbs P e1 ty x=zbs P e2 ty x:=by
 cases x with
 |tmp t=>simp only[zbs,hx t rfl]
 |_=>rfl
theorem Agree.move(h:Agree ds e1 e2 ts){P:Program}{ty:TypeId}{x:Operand}(hx:∀t,x=.tmp t->t∈ts):zbs P e1 ty x=zbs P e2 ty x:=znk (λt e=>h.tmp t (hx t e))
theorem Agree.calm(h:Agree ds e1 e2 ts){P:Program}{io:FuncId->List Nat}{call:zai}{ty:TypeId}{op:Op}(hx:∀t∈zay op,t∈ts):za6 P io call ds e1 ty op=za6 P io call ds e2 ty op:=by
 have hp:=h.pure (P:=P) (ty:=ty) hx
 cases op with
 |move x=>exact h.move (λt e=>hx t (by simp[zay,Op.operands,e]))
 |assign x=>exact h.move (λt e=>hx t (by simp[zay,Op.operands,e]))
 |extract x i=>
  cases x with
  |tmp t=>simp only[za6,zpw,h.tmp t (hx t (by simp[zay,Op.operands]))]
  |_=>rfl
 |slice s x lo hi mx=>
  cases mx with
  |some m=>rfl
  |none=>
   simp only[za6];have h1:∀t,x=.tmp t->t∈ts:=λt e=>hx t (by subst e;cases lo<;>cases hi<;>simp[zay,Op.operands])
   have h2:∀t,lo=some (.tmp t)->t∈ts:=λt e=>hx t (by subst e;cases hi<;>simp[zay,Op.operands])
   have h3:∀t,hi=some (.tmp t)->t∈ts:=λt e=>hx t (by subst e;cases lo<;>simp[zay,Op.operands])
   have h4:zfo e1 x=zfo e2 x:=by
    cases x with
    |tmp t=>simp only[zfo,h.tmp t (h1 t rfl)]
    |_=>rfl
   have h5:∀pl,zgc P e1 s x lo hi pl=zgc P e2 s x lo hi pl:=λpl=>by
    unfold zgc;rw[h.rd h1,h.rdO h2,h.rdO h3]
   rw[h.loose h1,h.rd h1,h.rdO h2,h.rdO h3,h4];simp only[h5]
 |buildSlice s n parts=>
  have hps:∀el,ze0 P el e1 (parts.toList.map (·.2))=ze0 P el e2 (parts.toList.map (·.2)):=λel=>h.parts (λx hm t e=>hx t (by
   simp only[zay,Op.operands,List.mem_filterMap];refine⟨.tmp t,?_,rfl⟩;rw[<-e]
   simpa using hm))
  simp only[za6,hps]
 |build s parts=>
  have hro:∀(ps:List (Nat×Operand)),(∀p∈ps,∀t,p.2=.tmp t->t∈ts)-> ∀cs,zj6 P s e1 cs ps=zj6 P s e2 cs ps:=by
   intro ps
   induction ps with
   |nil=>intro _ cs;rfl
   |cons p r ih=>
    intro hp cs;obtain⟨i,x⟩:=p;have hx:∀ty,Go.Qz.roOp P e1 ty x=Go.Qz.roOp P e2 ty x:=λty=>h.roOp (hp (i,x) List.mem_cons_self)
    simp only[zj6,hx,ih (λq hq=>hp q (List.mem_cons_of_mem _ hq))]
  simp only[za6,hro parts.toList (λp hm t e=>hx t (by
   simp only[zay,Op.operands,List.mem_filterMap];refine⟨.tmp t,?_,rfl⟩;rw[<-e];simp only[List.mem_map]
   exact⟨p,hm,rfl⟩))]
 |convert s d x=>
  simp only[za6];rw[h.rd (x:=x) (λt e=>hx t (by simp[zay,Op.operands,e])),hp]
 |call c=>
  obtain⟨callee,args,argTypes⟩:=c
  have harg:∀x∈args.toList,∀t,x=.tmp t->t∈ts:=λx hm t e=>hx t (by
   simp only[zay,Op.operands,Call.operands,List.mem_filterMap];refine⟨.tmp t,?_,rfl⟩;rw[<-e];simp only[Array.toList_append,List.mem_append]
   exact .inr hm)
  cases callee with
  |builtin b=>
   cases b with
   |append=>
    simp only[za6];split
    ·rename_i x y s u ha _;unfold ze5;rw[h.tmp x (harg _ (by rw[ha];simp) x rfl),h.rd (x:=y) (harg y (by rw[ha];simp))]
    ·rfl
   |_=>simp only[za6,hp]
  |value f=>
   simp only[za6];rw[h.operand (x:=f) (λt e=>hx t (by simp[zay,Op.operands,Call.operands,e]))]
   split
   ·rw[h.quiet harg]
   ·rfl
  |invoke r m=>rfl
 |binOp a b c d e' =>simp only[za6,hp]
 |unOp a b c=>simp only[za6,hp]
 |pick a b c=>simp only[za6,hp]
 |nilCheck a=>simp only[za6,hp]
 |fieldAddr a b c=>simp only[za6,hp]
 |indexAddr a b c=>simp only[za6,hp]
 |index a b c=>simp only[za6,hp]
 |field a b c=>simp only[za6,hp]
 |load a b=>simp only[za6,hp]
 |makeInterface a b=>simp only[za6,hp]
 |_=>rfl
def fitD:Option Nat->Op->Bool
 |some _,.store ..=>false
 |_,_=>true
def wrV(P:Program)(io:FuncId->List Nat)(call:zai)(ds:List Nat)(e:Env)(op:Op):Option (V×Nat×List A):=match op with
 | .call c=>match c.callee with
   | .value f=>match za4 P e 0 f with
     |some (.one (.fn f []))=>if znh io f then none else if c.args.toList.length=c.argTypes.toList.length then match za0 P e (c.args.toList.zip c.argTypes.toList)with
      |some vs=>match lend e (io f) 0 (vs.zip (c.args.toList.map zhn))with
       |some (as,.box n b::m)=>if m.all Lent.isRead&&zax (.box n b::m)&&ds.contains (za8 b)then match e.box b with
        |some cs0=>if cs0.all A.portable then match call f as [(n,cs0)]with
         |some (r,bx')=>match za5 n bx' with
          |some cs=>if zm2 (.box n b::m) r bx' &&decide (cs.length=cs0.length)then some (r,b,cs)else none
          |none=>none
         |none=>none
         else none
        |none=>none
        else none
       |_=>none
      |none=>none
      else none
     |_=>none
   |_=>none
 | .store t (.tmp a) x=>match zbj P t,roOp P e t x,e.get a with
   |some n,some v,.one (.ptr b o)=>if decide (b<zab)&&ds.contains (za8 b)then match e.box b with
    |some cs=>match(V.one v).cellsA with
     |some as=>if as.all A.isRo&&(decide (as.length=n)&&decide (o+n<=cs.length)&&as.all A.portable)then some (V.undef,b,zcf cs o as)else none
     |none=>none
    |none=>none
    else none
   |_,_,_=>none
 |_=>none
theorem zpx{e:Env}{b:Nat}:∀{as:List A} {cs:List A} {o:Nat},as.all A.isRo=true->e.box b=some cs->zf7 e b o as=e.setBox b (zcf cs o as)
 | [],cs,o,_,hb=>by
   obtain⟨n,t,bx⟩:=e;simp only[zf7,zcf,Env.setBox];congr 1;funext x;split
   ·rename_i hx;subst hx;exact hb
   ·rfl
 |a::r,cs,o,h,hb=>by
  rw[List.all_cons,Bool.and_eq_true]at h;have h1:e.setRoot (.cell b o) a=e.setBox b (cs.set o a):=by simp only[Env.setRoot,hb]
  have h2:zf7 e b o (a::r)=zf7 (e.setRoot (.cell b o) a) b (o+1) r:=by
   cases a with
   |ro d=>rfl
   |_=>exact absurd h.1 (by simp[A.isRo])
  rw[h2,h1,zpx h.2 (show (e.setBox b (cs.set o a)).box b=some (cs.set o a) by simp[Env.box,Env.setBox]),zcf]
  obtain⟨n,t,bx⟩:=e;simp only[Env.setBox];congr 1;funext x;split<;>rfl
theorem z65{P:Program}{io:FuncId->List Nat}{call:zai}{ds:List Nat}{e:Env}{o:Oper}{r:V}{b:Nat}{cs:List A}(h:wrV P io call ds e o.op=some (r,b,cs)):
 (evOp P io call e o=zap ((((e.mapA (A.killIn b)).mapA (A.killIn b)).setBox b cs)) o.dst r∨(fitD o.dst o.op=true->evOp P io call e o=zap (e.setBox b cs) o.dst r))/\ds.contains (za8 b)=true:=by
 obtain⟨dst,op,ty,pos,after,guard⟩:=o;dsimp only at h ⊢;unfold wrV at h;split at h
 rotate_left
 ·rename_i t a x;split at h
  ·rename_i n v b' o' hn hv ha;split at h
   ·rename_i hc;simp only[Bool.and_eq_true,decide_eq_true_eq]at hc;split at h
    ·rename_i cs0 hb;split at h
     ·rename_i as has;split at h
      ·rename_i hcc;simp only[Bool.and_eq_true,decide_eq_true_eq]at hcc;simp only[Option.some.injEq,Prod.mk.injEq]at h;obtain⟨rfl,rfl,rfl⟩:=h;refine⟨.inr (λhf=>?_),hc.2⟩
       cases dst with
       |some d=>cases hf
       |none=>
        simp only[evOp,Option.isNone_none,if_true,hn,zpt hv,ha,zk3,hc.1,hb,has];rw[if_pos (by simp only[Bool.and_eq_true,decide_eq_true_eq];exact⟨⟨hcc.2.1.1,hcc.2.1.2⟩,hcc.2.2⟩),zpx hcc.1 hb]
        rfl
      ·cases h
     ·cases h
    ·cases h
   ·cases h
  ·cases h
 ·cases h
 ·rename_i c;split at h
  ·rename_i f hcal;split at h
   ·rename_i f' hf;split at h
    ·cases h
    ·rename_i hop;split at h
     ·rename_i hlen;split at h
      ·rename_i vs hvs;split at h
       ·rename_i as n b' m hl;split at h
        ·rename_i hc;simp only[Bool.and_eq_true]at hc;obtain⟨⟨hm,hap⟩,hds⟩:=hc;split at h
         ·rename_i cs0 hb;split at h
          ·rename_i hpo;split at h
           ·rename_i r' bx' hcall;split at h
            ·rename_i cs' hg;split at h
             ·rename_i hok;simp only[Bool.and_eq_true,decide_eq_true_eq]at hok;simp only[Option.some.injEq,Prod.mk.injEq]at h;obtain⟨rfl,rfl,rfl⟩:=h;refine⟨.inl ?_,hds⟩
              have hp:zhp P io e f' [] c.args.toList c.argTypes.toList=some (as,.box n b' ::m,[(n,cs0)]):=by
               unfold zhp;rw[if_pos hlen,hvs];dsimp only;rw[show zb6 []=[]from rfl,List.append_nil,hl]
               dsimp only;rw[hap,show zdq e (.box n b' ::m)=zdq e m from rfl,zjk hm]
               have hbx:zar e (.box n b' ::m)=some [(n,cs0)]:=by
                unfold zar;rw[hb];dsimp only;rw[if_pos hpo,zh0 hm]
               rw[hbx];rfl
              have hgb:zdf e (.box n b' ::m) bx' =some ((((e.mapA (A.killIn b')).mapA (A.killIn b')).setBox b' cs')):=by
               unfold zdf zbl;rw[hb];dsimp only;rw[zgf hm];unfold zbd;rw[hg];have hb2:((e.mapA (A.killIn b')).setBox b' (cs0.map λ_=>A.dead)).box b' =some (cs0.map λ_=>A.dead):=by simp[Env.box,Env.setBox]
               rw[hb2];dsimp only;rw[List.length_map,if_pos hok.2,zjl hm];refine congrArg some (?_:Env.mk _ _ _=Env.mk _ _ _);congr 1;funext x;dsimp only[Env.mapA,Env.setBox];split<;>rfl
              unfold evOp;dsimp only;rw[hcal];dsimp only;rw[hf,zjg];dsimp only;rw[if_neg hop];unfold ze4;rw[hp];dsimp only;rw[hcall];dsimp only;rw[if_pos hok.1,hgb]
             ·cases h
            ·cases h
           ·cases h
          ·cases h
         ·cases h
        ·cases h
       ·cases h
      ·cases h
     ·cases h
   ·cases h
  ·cases h
theorem Agree.wr(h:Agree ds e1 e2 ts)(hb:∀b,e1.box b=e2.box b){P:Program}{io:FuncId->List Nat}{call:zai}{op:Op}(hx:∀t∈zay op,t∈ts):wrV P io call ds e1 op=wrV P io call ds e2 op:=by
 unfold wrV;split
 ·rename_i c;obtain⟨callee,args,argTypes⟩:=c
  have harg:∀x∈args.toList,∀t,x=.tmp t->t∈ts:=λx hm t e=>hx t (by
   simp only[zay,Op.operands,Call.operands,List.mem_filterMap];refine⟨.tmp t,?_,rfl⟩;rw[<-e];simp only[Array.toList_append,List.mem_append]
   exact .inr hm)
  cases callee with
  |value f=>
   dsimp only;rw[h.operand (x:=f) (λt e=>hx t (by simp[zay,Op.operands,Call.operands,e]))]
   have hz:∀p∈args.toList.zip argTypes.toList,∀t,p.1=.tmp t->t∈ts:=λp hp t e=>harg p.1 (List.of_mem_zip hp).1 t e
   rw[h.operands hz];split
   ·split
    ·rfl
    ·split
     ·cases hv:za0 P e2 (args.toList.zip argTypes.toList)with
      |none=>rfl
      |some vs=>
       have hcl:=h.operandsClean hz (by rw[h.operands hz];exact hv)
       dsimp only;rw[h.lend (l:=vs.zip (args.toList.map zhn)) (λp hp=>hcl _ (List.of_mem_zip hp).1)]
       split
       ·rw[hb]
       ·rfl
     ·rfl
   ·rfl
  |_=>rfl
 ·rename_i t a x;rw[h.roOp (x:=x) (λt e=>hx t (by simp[zay,Op.operands,e])),h.tmp a (hx a (by simp[zay,Op.operands]))]
  simp only[hb]
 ·rfl
end Go.Qz
