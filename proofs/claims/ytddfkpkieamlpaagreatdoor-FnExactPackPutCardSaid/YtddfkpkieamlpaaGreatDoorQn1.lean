import Derived.Test.YtddfkpkieamlpaaGreatDoorQn0
import Derived.Test.YtddfkpkieamlpaaGreatDoorQc3
namespace Go.Qz
def zcl(c c':zai):Prop:=∀f as bx r,c f as bx=some r->c' f as bx=some r
structure zgu(c:Nat->zai)(C:zai):Prop where
 mono:∀n m,n<=m->zcl (c n) (c m)
 lim:∀f as bx r,C f as bx=some r-> ∃n,c n f as bx=some r
 le:∀n,zcl (c n) C
section
variable{P:Program}{io:FuncId->List Nat}
theorem zdk{c c':zai}(h:zcl c c'){e:Env}{f:FuncId}{caps:List Cap}{args:List Operand}{tys:List TypeId}{x:V×Env}(hx:zb7 P io c e f caps args tys=some x):zb7 P io c' e f caps args tys=some x:=by
 unfold zb7 at hx ⊢;split at hx
 ·rename_i as m bx hp;split at hx
  ·rename_i r bx' hc;simp only[h _ _ _ _ hc];exact hx
  ·cases hx
 ·cases hx
theorem ztk{c c':zai}(h:zcl c c'){e:Env}{f:FuncId}{caps:List Cap}{args:List Operand}{tys:List TypeId}{x:V×Env}(hx:ze4 P io c e f caps args tys=some x):ze4 P io c' e f caps args tys=some x:=by
 unfold ze4 at hx ⊢;split at hx
 ·rename_i as m bx hp;split at hx
  ·rename_i r bx' hc;simp only[h _ _ _ _ hc];split at hx
   ·rename_i hok;rw[if_pos hok];exact hx
   ·rename_i hok;rw[if_neg hok];exact zdk h hx
  ·cases hx
 ·exact zdk h hx
theorem zie{c:Nat->zai}{C:zai}(H:zgu c C){e:Env}{f:FuncId}{caps:List Cap}{args:List Operand}{tys:List TypeId}{x:V×Env}(hx:zb7 P io C e f caps args tys=some x):∃n,zb7 P io (c n) e f caps args tys=some x:=by
 unfold zb7 at hx ⊢;split at hx
 ·rename_i as m bx hp;split at hx
  ·rename_i r bx' hc;obtain⟨n,hn⟩:=H.lim _ _ _ _ hc;refine⟨n,?_⟩;simp only[hn];exact hx
  ·cases hx
 ·cases hx
theorem zwt{c:Nat->zai}{C:zai}(H:zgu c C){e:Env}{f:FuncId}{caps:List Cap}{args:List Operand}{tys:List TypeId}{x:V×Env}(hx:ze4 P io C e f caps args tys=some x):∃n,ze4 P io (c n) e f caps args tys=some x:=by
 unfold ze4 at hx ⊢;split at hx
 ·rename_i as m bx hp;split at hx
  ·rename_i r bx' hc;obtain⟨n,hn⟩:=H.lim _ _ _ _ hc;split at hx
   ·rename_i hok;refine⟨n,?_⟩;simp only[hn];rw[if_pos hok];exact hx
   ·rename_i hok;obtain⟨m',hm⟩:=zie H hx;refine⟨max n m',?_⟩;simp only[H.mono n _ (Nat.le_max_left _ _) _ _ _ _ hn];rw[if_neg hok];exact zdk (H.mono m' _ (Nat.le_max_right _ _)) hm
  ·cases hx
 ·exact zie H hx
theorem zra{c c':zai}{e:Env}{o:Oper}(h:Op.callsValue o.op=false):evOp P io c e o=evOp P io c' e o:=by
 obtain⟨d,op,ty,p,af,gd⟩:=o
 cases op with
 |call k=>
  obtain⟨callee,args,argTypes⟩:=k
  cases callee with
  |value f=>cases h
  |builtin b=>cases b<;>rfl
  |invoke r m=>rfl
 |store t a x=>cases a<;>rfl
 |makeFunc fn a b=>cases fn<;>rfl
 |extract t i=>cases t<;>rfl
 |_=>rfl
theorem zkk{dst:Option Nat}{x:Option (V×Env)}{e':Env}(h:zk6 dst x=some e'):∃y,x=some y:=by
 cases x with
 |none=>cases h
 |some y=>exact⟨y,rfl⟩
theorem zfz{c c':zai}(h:zcl c c'){t:Nat}{x:D×Env}:∀{l:List (Nat×FuncId)} {e:Env} {d:D},zb2 io c t l e d=some x->zb2 io c' t l e d=some x
 | [],_,_,hx=>hx
 |(i,g)::r,e,d,hx=>by
  simp only[zb2]at hx ⊢;split at hx
  ·split at hx
   ·split at hx
    ·split at hx
     ·rename_i hok;rw[if_pos hok];split at hx
      ·split at hx
       ·rename_i hc;simp only[h _ _ _ _ hc];split at hx
        ·rename_i hk;rw[if_pos hk];split at hx
         ·exact zfz h hx
         ·cases hx
        ·cases hx
       ·cases hx
      ·cases hx
     ·cases hx
    ·cases hx
   ·cases hx
  ·cases hx
theorem zkl{c:Nat->zai}{C:zai}(H:zgu c C){t:Nat}{x:D×Env}:∀{l:List (Nat×FuncId)} {e:Env} {d:D},zb2 io C t l e d=some x-> ∃n,zb2 io (c n) t l e d=some x
 | [],_,_,hx=>⟨0,hx⟩
 |(i,g)::r,e,d,hx=>by
  simp only[zb2]at hx ⊢;split at hx
  ·split at hx
   ·split at hx
    ·split at hx
     ·rename_i hok;simp only[if_pos hok];split at hx
      ·split at hx
       ·rename_i hc;split at hx
        ·rename_i hk;split at hx
         ·rename_i hg';obtain⟨n,hn⟩:=H.lim _ _ _ _ hc;obtain⟨m,hm⟩:=zkl H hx;refine⟨max n m,?_⟩;simp only[H.mono n _ (Nat.le_max_left _ _) _ _ _ _ hn];rw[if_pos hk];simp only[hg'];exact zfz (H.mono m _ (Nat.le_max_right _ _)) hm
         ·cases hx
        ·cases hx
       ·cases hx
      ·cases hx
     ·cases hx
    ·cases hx
   ·cases hx
  ·cases hx
theorem zpb{c c':zai}(h:zcl c c'){e e':Env}{f:FuncId}{args:List Operand}{dst:Option Nat}{l:List Nat}(hx:zcz P io c e f args dst l=some e'):zcz P io c' e f args dst l=some e':=by
 unfold zcz at hx ⊢;split at hx
 ·split at hx
  ·split at hx
   ·split at hx
    ·rename_i hc;rw[if_pos hc];split at hx
     ·split at hx
      ·rename_i hg;simp only[zfz h hg];exact hx
      ·cases hx
     ·cases hx
    ·cases hx
   ·cases hx
  ·cases hx
 ·cases hx
theorem zrb{c:Nat->zai}{C:zai}(H:zgu c C){e e':Env}{f:FuncId}{args:List Operand}{dst:Option Nat}{l:List Nat}(hx:zcz P io C e f args dst l=some e'):∃n,zcz P io (c n) e f args dst l=some e':=by
 unfold zcz at hx ⊢;split at hx
 ·split at hx
  ·split at hx
   ·split at hx
    ·rename_i hc;simp only[if_pos hc];split at hx
     ·split at hx
      ·rename_i hg;obtain⟨n,hn⟩:=zkl H hg;refine⟨n,?_⟩;simp only[hn];exact hx
      ·cases hx
     ·cases hx
    ·cases hx
   ·cases hx
  ·cases hx
 ·cases hx
theorem ztl{c c':zai}(h:zcl c c'){e e':Env}{f:FuncId}{caps:List Cap}{args:List Operand}{tys:List TypeId}{dst:Option Nat}(hx:zeo P io c e f caps args tys dst=some e'):zeo P io c' e f caps args tys dst=some e':=by
 unfold zeo at hx ⊢;split at hx
 ·rename_i hsp;rw[if_pos hsp];split at hx
  ·exact zpb h hx
  ·cases hx
 rename_i hsp;rw[if_neg hsp];split at hx
 ·rename_i as hp;split at hx
  ·rename_i cs hc;simp only[h _ _ _ _ hc];exact hx
  ·rename_i d hc;simp only[h _ _ _ _ hc];obtain⟨y,hy⟩:=zkk hx;rw[hy]at hx;rw[zdk h hy];exact hx
  ·cases hx
 ·cases hx
theorem zwu{c:Nat->zai}{C:zai}(H:zgu c C){e e':Env}{f:FuncId}{caps:List Cap}{args:List Operand}{tys:List TypeId}{dst:Option Nat}(hx:zeo P io C e f caps args tys dst=some e'):∃n,zeo P io (c n) e f caps args tys dst=some e':=by
 unfold zeo at hx;split at hx
 ·rename_i hsp;split at hx
  ·obtain⟨n,hn⟩:=zrb H hx;exact⟨n,by unfold zeo;rw[if_pos hsp];exact hn⟩
  ·cases hx
 rename_i hsp;split at hx
 ·rename_i as hp;split at hx
  ·rename_i cs hc;obtain⟨n,hn⟩:=H.lim _ _ _ _ hc;refine⟨n,?_⟩;unfold zeo;rw[if_neg hsp,hp];simp only[hn];exact hx
  ·rename_i d hc;obtain⟨n,hn⟩:=H.lim _ _ _ _ hc;obtain⟨y,hy⟩:=zkk hx;obtain⟨m',hm⟩:=zie H hy;rw[hy]at hx;refine⟨max n m',?_⟩;unfold zeo;rw[if_neg hsp,hp];simp only[H.mono n _ (Nat.le_max_left _ _) _ _ _ _ hn];rw[zdk (H.mono m' _ (Nat.le_max_right _ _)) hm];exact hx
  ·cases hx
 ·cases hx
theorem z0g{c c':zai}(h:zcl c c'){e e':Env}{o:Oper}(hx:evOp P io c e o=some e'):evOp P io c' e o=some e':=by
 cases hv:Op.callsValue o.op with
 |false=>rw[<-zra hv (c:=c)];exact hx
 |true=>
  obtain⟨d,op,ty,p,af,gd⟩:=o
  cases op with
  |call k=>
   obtain⟨callee,args,argTypes⟩:=k
   cases callee with
   |value f=>
    simp only[evOp]at hx ⊢;split at hx
    ·rename_i g caps hg;split at hx
     ·rename_i hop;rw[if_pos hop];exact ztl h hx
     ·rename_i hop;rw[if_neg hop];split at hx
      ·rename_i v e1 hc;simp only[ztk h hc];exact hx
      ·cases hx
    ·cases hx
   |_=>cases hv
  |_=>cases hv
theorem z3j{c:Nat->zai}{C:zai}(H:zgu c C){e e':Env}{o:Oper}(hx:evOp P io C e o=some e'):∃n,evOp P io (c n) e o=some e':=by
 cases hv:Op.callsValue o.op with
 |false=>exact⟨0,by rw[zra hv (c':=C)];exact hx⟩
 |true=>
  obtain⟨d,op,ty,p,af,gd⟩:=o
  cases op with
  |call k=>
   obtain⟨callee,args,argTypes⟩:=k
   cases callee with
   |value f=>
    simp only[evOp]at hx ⊢;split at hx
    ·rename_i g caps hg;split at hx
     ·rename_i hop;obtain⟨n,hn⟩:=zwu H hx;exact⟨n,by rw[if_pos hop];exact hn⟩
     ·rename_i hop;split at hx
      ·rename_i v e1 hc;obtain⟨n,hn⟩:=zwt H hc;refine⟨n,?_⟩;rw[if_neg hop];simp only[hn];exact hx
      ·cases hx
    ·cases hx
   |_=>cases hv
  |_=>cases hv
theorem zd5{c c':zai}(h:zcl c c'){q:QOp}{e e':Env}(hx:zh2 P io c q e=some e'):zh2 P io c' q e=some e':=by
 unfold zh2 at hx ⊢;split at hx
 ·rename_i hg;exact z0g h hx
 ·exact hx
 ·cases hx
theorem zrc{c:Nat->zai}{C:zai}(H:zgu c C){q:QOp}{e e':Env}(hx:zh2 P io C q e=some e'):∃n,zh2 P io (c n) q e=some e':=by
 unfold zh2 at hx ⊢;split at hx
 ·exact z3j H hx
 ·exact⟨0,hx⟩
 ·cases hx
theorem zi7{c c':zai}(h:zcl c c'):∀{l:List QOp} {e e':Env},evL P io c l e=some e' ->evL P io c' l e=some e'
 | [],_,_,hx=>hx
 |q::r,e,e',hx=>by
  simp only[evL,Option.then_]at hx ⊢;split at hx
  ·rename_i e1 h1;rw[zd5 h h1];exact zi7 h hx
  ·cases hx
theorem ztm{c:Nat->zai}{C:zai}(H:zgu c C):∀{l:List QOp} {e e':Env},evL P io C l e=some e' -> ∃n,evL P io (c n) l e=some e'
 | [],_,_,hx=>⟨0,hx⟩
 |q::r,e,e',hx=>by
  simp only[evL,Option.then_]at hx ⊢;split at hx
  ·rename_i e1 h1;obtain⟨n,hn⟩:=zrc H h1;obtain⟨m,hm⟩:=ztm H hx;refine⟨max n m,?_⟩;rw[zd5 (H.mono n _ (Nat.le_max_left _ _)) hn];exact zi7 (H.mono m _ (Nat.le_max_right _ _)) hm
  ·cases hx
theorem zkm{c:zai}{e:Env}{f:FuncId}{caps:List Cap}{args:List Operand}{tys:List TypeId}{x:V}(hx:zcn P io c e f caps args tys=some x):
 args.length=tys.length/\ ∃vs,za0 P e (args.zip tys)=some vs/\ ∃as m,lend e (io f) 0 (vs.zip (args.map zhn)++zb6 caps)=some (as,m)/\m.all Lent.isRead=true/\ ∃bx',c f as []=some (x,bx')/\zm2 m x bx' =true:=by
 have hno:=zea hx;unfold zcn at hx;rw[hno]at hx;simp only[Bool.false_eq_true,if_false]at hx;split at hx
 ·rename_i h1;split at hx
  ·rename_i vs h2;split at hx
   ·rename_i as m h3;split at hx
    ·rename_i h4;split at hx
     ·rename_i r bx' h5;split at hx
      ·rename_i h6;obtain rfl:=Option.some.inj hx;exact⟨h1,vs,h2,as,m,h3,h4,bx',h5,h6⟩
      ·cases hx
     ·cases hx
    ·cases hx
   ·cases hx
  ·cases hx
 ·cases hx
theorem ztn{c c':zai}(h:zcl c c'){e:Env}{f:FuncId}{caps:List Cap}{args:List Operand}{tys:List TypeId}{x:V}(hx:zcn P io c e f caps args tys=some x):zcn P io c' e f caps args tys=some x:=by
 obtain⟨h1,vs,h2,as,m,h3,h4,bx',h5,h6⟩:=zkm hx;have hno:=zea hx;unfold zcn;simp only[hno,h1,h2,h3,h4,h _ _ _ _ h5,h6,if_true,Bool.false_eq_true,if_false]
theorem zwv{c:Nat->zai}{C:zai}(H:zgu c C){e:Env}{f:FuncId}{caps:List Cap}{args:List Operand}{tys:List TypeId}{x:V}(hx:zcn P io C e f caps args tys=some x):∃n,zcn P io (c n) e f caps args tys=some x:=by
 obtain⟨h1,vs,h2,as,m,h3,h4,bx',h5,h6⟩:=zkm hx;obtain⟨n,hn⟩:=H.lim _ _ _ _ h5;have hno:=zea hx;exact⟨n,by unfold zcn;simp only[hno,h1,h2,h3,h4,hn,h6,if_true,Bool.false_eq_true,if_false]⟩
theorem zn4{c c':zai}{ds:List Nat}{e:Env}{ty:TypeId}{op:Op}(h:Op.callsValue op=false):za6 P io c ds e ty op=za6 P io c' ds e ty op:=by
 cases op with
 |call k=>
  obtain⟨callee,args,argTypes⟩:=k
  cases callee with
  |value f=>cases h
  |builtin b=>cases b<;>rfl
  |invoke r m=>rfl
 |_=>rfl
theorem zww{c c':zai}(h:zcl c c'){ds:List Nat}{e:Env}{ty:TypeId}{op:Op}{x:V×Option Nat}(hx:za6 P io c ds e ty op=some x):za6 P io c' ds e ty op=some x:=by
 cases hv:Op.callsValue op with
 |false=>rw[<-zn4 hv (c:=c)];exact hx
 |true=>
  cases op with
  |call k=>
   obtain⟨callee,args,argTypes⟩:=k
   cases callee with
   |value f=>
    simp only[za6]at hx ⊢;split at hx
    ·rename_i g caps hg
     cases hq:zcn P io c e g caps args.toList argTypes.toList with
     |none=>rw[hq]at hx;cases hx
     |some v=>rw[ztn h hq];rw[hq]at hx;exact hx
    ·cases hx
   |_=>cases hv
  |_=>cases hv
theorem z0h{c:Nat->zai}{C:zai}(H:zgu c C){ds:List Nat}{e:Env}{ty:TypeId}{op:Op}{x:V×Option Nat}(hx:za6 P io C ds e ty op=some x):∃n,za6 P io (c n) ds e ty op=some x:=by
 cases hv:Op.callsValue op with
 |false=>exact⟨0,by rw[zn4 hv (c':=C)];exact hx⟩
 |true=>
  cases op with
  |call k=>
   obtain⟨callee,args,argTypes⟩:=k
   cases callee with
   |value f=>
    simp only[za6]at hx ⊢;split at hx
    ·rename_i g caps hg
     cases hq:zcn P io C e g caps args.toList argTypes.toList with
     |none=>rw[hq]at hx;cases hx
     |some v=>
      obtain⟨n,hn⟩:=zwv H hq;exact⟨n,by rw[hn];rw[hq]at hx;exact hx⟩
    ·cases hx
   |_=>cases hv
  |_=>cases hv
theorem zve{c:zai}{ds:List Nat}{e:Env}{op:Op}{x:V×Nat×List A}(h:wrV P io c ds e op=some x):(∃g us bx r,c g us bx=some r/\
 (∀c':zai,c' g us bx=some r->wrV P io c' ds e op=some x)/\ ∀(c':zai) (ty:TypeId),za6 P io c' ds e ty op=none)∨ ∀c':zai,wrV P io c' ds e op=some x/\ ∀ty:TypeId,za6 P io c' ds e ty op=none:=by
 unfold wrV at h;split at h
 rotate_left
 ·exact .inr (λc' =>⟨h,λty=>rfl⟩)
 ·cases h
 ·rename_i k;obtain⟨callee,args,argTypes⟩:=k
  cases callee with
  |value f=>
   dsimp only at h;split at h
   ·rename_i g hf;split at h
    ·cases h
    ·rename_i hop;split at h
     ·rename_i hlen;split at h
      ·rename_i vs hvs;split at h
       ·rename_i us n b' m hl;split at h
        ·rename_i hc;split at h
         ·rename_i cs0 hb;split at h
          ·rename_i hpo;split at h
           ·rename_i r bx' hcall;refine .inl ⟨g,us,[(n,cs0)],(r,bx'),hcall,λc' hc' =>?_,λc' ty=>?_⟩
            ·unfold wrV;dsimp only;rw[hf];dsimp only;rw[if_neg hop,if_pos hlen,hvs];dsimp only;rw[hl];dsimp only;rw[if_pos hc,hb];dsimp only;rw[if_pos hpo,hc'];exact h
            ·simp only[za6,hf,zjg]
             have:zcn P io c' e g [] args.toList argTypes.toList=none:=by
              unfold zcn;rw[if_neg hop,if_pos hlen,hvs];dsimp only;rw[show zb6 []=[]from rfl,List.append_nil,hl]
              rfl
             rw[this];rfl
           ·cases h
          ·cases h
         ·cases h
        ·cases h
       ·cases h
      ·cases h
     ·cases h
   ·cases h
  |_=>cases h
theorem zrd{c:zai}{ds:List Nat}{q:QOp}{e:Env}{v:V}{t:Option Nat}(hg:zdr e q.g=some true)(hv:za6 P io c ds e q.ty q.op=some (v,t))(hc:(iceR (ze6 ds) q.op v).clean ds=true)(hd:zgg e q.dst=true)(hf:zm4 ds e q.op=true):stpQ P io c ds q e=some ⟨q.dst,iceR (ze6 ds) q.op v,t,none⟩:=by
 unfold stpQ;rw[hg,hv];simp only[stp1,hc,hd,hf];rfl
theorem zpc{c:zai}{ds:List Nat}{q:QOp}{e:Env}{v:V}{b:Nat}{cs:List A}(hg:zdr e q.g=some true)(hn:za6 P io c ds e q.ty q.op=none)(hw:wrV P io c ds e q.op=some (v,b,cs))(hc:v.clean ds=true)(hd:zgg e q.dst=true)(hf:fitD q.dst q.op=true):stpQ P io c ds q e=some ⟨q.dst,v,none,some (b,cs)⟩:=by
 unfold stpQ;rw[hg,hn,hw];simp only[stp1,hc,hd,hf];rfl
theorem zre{c c':zai}{ds:List Nat}{q:QOp}{e:Env}(hg:zdr e q.g=some false):stpQ P io c ds q e=stpQ P io c' ds q e:=by
 unfold stpQ;rw[hg]
theorem zrf{c c':zai}(h:zcl c c'){ds:List Nat}{q:QOp}{e:Env}{s:Stp}(hx:stpQ P io c ds q e=some s):stpQ P io c' ds q e=some s:=by
 obtain⟨h1,h2,h3,⟨hg,_⟩|⟨hg,⟨v,t,hv,hf,rfl⟩|⟨v,b,cs,_,hw,rfl,hfd⟩⟩⟩:=zc7 hx
 ·rw[<-zre hg];exact hx
 ·exact zrd hg (zww h hv) h3 h2 hf
 ·rcases zve hw with⟨g,us,bx,r,k1,k2,k3⟩|k
  ·exact zpc hg (k3 _ _) (k2 _ (h _ _ _ _ k1)) h3 h2 hfd
  ·exact zpc hg ((k _).2 _) (k _).1 h3 h2 hfd
theorem z3k{c:Nat->zai}{C:zai}(H:zgu c C){ds:List Nat}{q:QOp}{e:Env}{s:Stp}(hx:stpQ P io C ds q e=some s):∃n,stpQ P io (c n) ds q e=some s:=by
 obtain⟨h1,h2,h3,⟨hg,_⟩|⟨hg,⟨v,t,hv,hf,rfl⟩|⟨v,b,cs,_,hw,rfl,hfd⟩⟩⟩:=zc7 hx
 ·exact⟨0,by rw[<-zre hg];exact hx⟩
 ·obtain⟨n,hn⟩:=z0h H hv;exact⟨n,zrd hg hn h3 h2 hf⟩
 ·rcases zve hw with⟨g,us,bx,r,k1,k2,k3⟩|k
  ·obtain⟨n,hn⟩:=H.lim _ _ _ _ k1;exact⟨n,zpc hg (k3 _ _) (k2 _ hn) h3 h2 hfd⟩
  ·exact⟨0,zpc hg ((k _).2 _) (k _).1 h3 h2 hfd⟩
theorem zkz{c c':zai}(h:zcl c c'){ds:List Nat}:∀{l:List QOp} {e e':Env},evH P io c ds l e=some e' ->evH P io c' ds l e=some e'
 | [],_,_,hx=>hx
 |q::r,e,e',hx=>by
  simp only[evH,appO]at hx ⊢;split at hx
  ·rename_i s h1;rw[zrf h h1];exact zkz h hx
  ·cases hx
theorem z0i{c:Nat->zai}{C:zai}(H:zgu c C){ds:List Nat}:∀{l:List QOp} {e e':Env},evH P io C ds l e=some e' -> ∃n,evH P io (c n) ds l e=some e'
 | [],_,_,hx=>⟨0,hx⟩
 |q::r,e,e',hx=>by
  simp only[evH,appO]at hx ⊢;split at hx
  ·rename_i s h1;obtain⟨n,hn⟩:=z3k H h1;obtain⟨m,hm⟩:=z0i H hx;refine⟨max n m,?_⟩;rw[zrf (H.mono n _ (Nat.le_max_left _ _)) hn];exact zkz (H.mono m _ (Nat.le_max_right _ _)) hm
  ·cases hx
theorem zkn{f f':Env->Res}(h:∀e r,f e=some r->f' e=some r){e:Env}{r:Ex×Env}(hx:zan f e=some r):zan f' e=some r:=by
 obtain⟨n,hn⟩:=zcs hx
 have:∀(n:Nat) (e:Env),iter f n e=some r->iter f' n e=some r:=by
  intro n
  induction n with
  |zero=>intro e h;cases h
  |succ n ih=>
   intro e hi;rw[iter]at hi ⊢
   cases hf:f e with
   |none=>rw[hf]at hi;cases hi
   |some x=>
    obtain⟨ex,e1⟩:=x;rw[hf]at hi;rw[h _ _ hf]
    cases ex with
    |n=>exact ih e1 hi
    |x i=>exact hi
    |r=>exact hi
 exact zc6 (this n e hn)
theorem zgv{fa fa' fb fb':Env->Res}(ha:∀e r,fa e=some r->fa' e=some r)(hb:∀e r,fb e=some r->fb' e=some r){ps:List Nat}{o i:Env}{r:Ex×Env}:∀{l:List ByteArray} {e:Env},zb9 fa fb ps o i l e=some r->zb9 fa' fb' ps o i l e=some r
 | [],_,h=>h
 |x::l,e,h=>by
  simp only[zb9]at h ⊢;split at h
  ·rename_i e1 h1
   cases hfa:fa e1 with
   |none=>rw[hfa]at h;cases h
   |some y=>
    rw[hfa]at h;rw[ha _ _ hfa];obtain⟨ex,e2⟩:=y
    cases ex with
    |n=>
     simp only at h ⊢
     cases hfb:fb e2 with
     |none=>rw[hfb]at h;cases h
     |some z=>
      rw[hfb]at h;rw[hb _ _ hfb];obtain⟨ex2,e3⟩:=z
      cases ex2 with
      |n=>exact zgv ha hb (l:=l) h
      |_=>exact h
    |_=>exact h
  ·cases h
theorem zto{fa fa' fb fb':Env->Res}(ha:∀e r,fa e=some r->fa' e=some r)(hb:∀e r,fb e=some r->fb' e=some r){ps:List Nat}{e:Env}{x:Option (FuncId×ByteArray×ByteArray)}{r:Ex×Env}(h:zgi io fa fb ps e x=some r):zgi io fa' fb' ps e x=some r:=by
 unfold zgi at h ⊢;split at h
 ·split at h
  ·rename_i hc;rw[if_pos hc];exact zgv ha hb h
  ·cases h
 ·cases h
theorem zwx{Fa Fb:Env->Res}{fa fb:Nat->Env->Res}(ma:∀n m,n<=m-> ∀e r,fa n e=some r->fa m e=some r)(mb:∀n m,n<=m-> ∀e r,fb n e=some r->fb m e=some r)(ha:∀e r,Fa e=some r-> ∃n,fa n e=some r)(hb:∀e r,Fb e=some r-> ∃n,fb n e=some r)
 {ps:List Nat} {e:Env} {x:Option (FuncId×ByteArray×ByteArray)} {r:Ex×Env} (h:zgi io Fa Fb ps e x=some r):∃n,zgi io (fa n) (fb n) ps e x=some r:=by
 have key:∀(o i:Env) (l:List ByteArray) (e:Env),zb9 Fa Fb ps o i l e=some r-> ∃n,zb9 (fa n) (fb n) ps o i l e=some r:=by
  intro o i l
  induction l with
  |nil=>exact λe h=>⟨0,h⟩
  |cons x l ih=>
   intro e h;simp only[zb9]at h;split at h
   ·rename_i e1 h1
    cases hfa:Fa e1 with
    |none=>rw[hfa]at h;cases h
    |some y=>
     rw[hfa]at h;obtain⟨n,hn⟩:=ha _ _ hfa;obtain⟨ex,e2⟩:=y
     cases ex with
     |n=>
      simp only at h
      cases hfb:Fb e2 with
      |none=>rw[hfb]at h;cases h
      |some z=>
       rw[hfb]at h;obtain⟨m,hm⟩:=hb _ _ hfb;obtain⟨ex2,e3⟩:=z
       cases ex2 with
       |n=>
        obtain⟨k,hk⟩:=ih _ h;refine⟨max n (max m k),?_⟩;simp only[zb9,h1,ma n _ (Nat.le_max_left _ _) _ _ hn,mb m (max n (max m k)) (by omega) _ _ hm]
        exact zgv (ma k _ (by omega)) (mb k _ (by omega)) hk
       |x id=>
        refine⟨max n m,?_⟩;simp only[zb9,h1,ma n _ (Nat.le_max_left _ _) _ _ hn,mb m _ (Nat.le_max_right _ _) _ _ hm];exact h
       |r=>
        refine⟨max n m,?_⟩;simp only[zb9,h1,ma n _ (Nat.le_max_left _ _) _ _ hn,mb m _ (Nat.le_max_right _ _) _ _ hm];exact h
     |x id=>cases h
     |r=>cases h
   ·cases h
 unfold zgi at h ⊢;split at h
 ·split at h
  ·rename_i hc;obtain⟨n,hn⟩:=key _ _ _ _ h;refine⟨n,?_⟩;rw[if_pos hc];exact hn
  ·cases h
 ·cases h
theorem zes{c c':zai}(h:zcl c c'){qs:List QOp}{ws:List (List Nat)}{F:Env->Prop}:∀{n:Nat} {done:List Nat} {e:Env},zb8 P io c qs ws F n done e->zb8 P io c' qs ws F n done e
 |0,_,_,hx=>hx
 |n+1,done,e,hx=>⟨hx.1,λi hi=>by
  obtain⟨q,e1,h1,h2,h3⟩:=hx.2 i hi
  exact⟨q,e1,h1,zd5 h h2,zes h h3⟩⟩
theorem zko{c c':zai}(h:zcl c c'){qs:List QOp}{ws:List (List Nat)}{F F0:Env->Prop}:∀{n:Nat} {done:List Nat} {e:Env},zb8 P io c qs ws F0 n done e->zb8 P io c' qs ws F n done e->zb8 P io c qs ws F n done e
 |0,_,_,_,hx=>hx
 |n+1,done,e,h0,hx=>⟨hx.1,λi hi=>by
  obtain⟨q,e1,h1,h2,h3⟩:=h0.2 i hi;obtain⟨q',e1',k1,k2,k3⟩:=hx.2 i hi;obtain rfl:=Option.some.inj (h1.symm.trans k1);obtain rfl:=Option.some.inj ((zd5 h h2).symm.trans k2)
  exact⟨q,e1,h1,h2,zko h h3 k3⟩⟩
theorem zme{c:Nat->zai}{C:zai}(H:zgu c C){qs:List QOp}{ws:List (List Nat)}{F:Env->Prop}:∀{n:Nat} {done:List Nat} {e:Env},zb8 P io C qs ws F n done e-> ∃k,zb8 P io (c k) qs ws F n done e
 |0,_,_,hx=>⟨0,hx⟩
 |n+1,done,e,hx=>by
  have key:∀l:List Nat,(∀i∈l,∃q e1,qs[i]? =some q/\zh2 P io C q e=some e1/\zb8 P io C qs ws F n (i::done) e1)-> ∃k,∀i∈l,∃q e1,qs[i]? =some q/\zh2 P io (c k) q e=some e1/\zb8 P io (c k) qs ws F n (i::done) e1:=by
   intro l
   induction l with
   |nil=>exact λ_=>⟨0,λi hi=>by cases hi⟩
   |cons a r ih=>
    intro hl;obtain⟨k1,h1⟩:=ih (λi hi=>hl i (List.mem_cons_of_mem _ hi))
    obtain⟨q,e1,g1,g2,g3⟩:=hl a List.mem_cons_self;obtain⟨k2,h2⟩:=zrc H g2;obtain⟨k3,h3⟩:=zme H g3;refine⟨max k1 (max k2 k3),λi hi=>?_⟩
    rcases List.mem_cons.1 hi with rfl|hi
    ·exact⟨q,e1,g1,zd5 (H.mono k2 _ (by omega)) h2,zes (H.mono k3 _ (by omega)) h3⟩
    ·obtain⟨q',e1',m1,m2,m3⟩:=h1 i hi;exact⟨q',e1',m1,zd5 (H.mono k1 _ (by omega)) m2,zes (H.mono k1 _ (by omega)) m3⟩
  obtain⟨k,hk⟩:=key _ hx.2;exact⟨k,hx.1,hk⟩
theorem zn5{c:zai}{qs:List QOp}{ws:List (List Nat)}{e e':Env}(hx:zle P io c qs ws e=some e'):∃F,zb8 P io c qs ws F qs.length [] e:=by
 unfold zle zuy at hx;split at hx
 ·rename_i h;obtain⟨x,h⟩:=h;exact⟨_,h⟩
 ·cases hx
theorem zn6{c c':zai}{qs:List QOp}{ws:List (List Nat)}{e:Env}(h:zcl c c'){F0:Env->Prop}(h0:zb8 P io c qs ws F0 qs.length [] e):zle P io c qs ws e=zle P io c' qs ws e:=
 congrArg zuy (funext λF=>propext ⟨λhf=>zes h hf,λhf=>zko h h0 hf⟩)
theorem zwy{c c':zai}(h:zcl c c'){qs:List QOp}{ws:List (List Nat)}{e e':Env}(hx:zle P io c qs ws e=some e'):zle P io c' qs ws e=some e':=by
 obtain⟨F,hF⟩:=zn5 hx;rw[<-zn6 h hF];exact hx
theorem z0j{c:Nat->zai}{C:zai}(H:zgu c C){qs:List QOp}{ws:List (List Nat)}{e e':Env}(hx:zle P io C qs ws e=some e'):∃n,zle P io (c n) qs ws e=some e':=by
 obtain⟨F,hF⟩:=zn5 hx;obtain⟨n,hn⟩:=zme H hF;exact⟨n,(zn6 (H.le n) hn).trans hx⟩
theorem zbq{c c':zai}(h:zcl c c'):∀{q:zaa} {e:Env} {r:Ex×Env},evQ P io c zan q e=some r->evQ P io c' zan q e=some r
 | .skip,_,_,hx=>hx
 | .ice _,_,_,hx=>hx
 | .ops l,e,r,hx=>by
   simp only[evQ,Option.then_]at hx ⊢;split at hx
   ·rename_i e1 h1;rw[zi7 h h1];exact hx
   ·cases hx
 | .free qs ws,e,r,hx=>by
   simp only[evQ,Option.then_]at hx ⊢;split at hx
   ·rename_i e1 h1;rw[zwy h h1];exact hx
   ·cases hx
 | .draw w hd tl,e,r,hx=>by
   simp only[evQ,Option.then_]at hx ⊢;split at hx
   ·rename_i e1 h1;unfold zyx at h1 ⊢;simp only[Option.then_]at h1 ⊢;split at h1
    ·rename_i e2 h2;rw[zkz h h2];simp only[zi7 h h1];exact hx
    ·cases h1
   ·cases hx
 | .seq a b,e,r,hx=>by
   simp only[evQ,Option.then_]at hx ⊢;split at hx
   ·rename_i x h1;rw[zbq h h1];obtain⟨ex,e1⟩:=x
    cases ex with
    |n=>exact zbq h (q:=b) hx
    |_=>exact hx
   ·cases hx
 | .cond k a b,e,r,hx=>by
   simp only[evQ]at hx ⊢;split at hx
   ·split at hx
    ·rename_i ht;rw[if_pos ht];exact zbq h hx
    ·rename_i ht;rw[if_neg ht];exact zbq h hx
   ·cases hx
 | .block id a,e,r,hx=>by
   simp only[evQ,Option.then_]at hx ⊢;split at hx
   ·rename_i x h1;rw[zbq h h1];exact hx
   ·cases hx
 | .loop a,e,r,hx=>zkn (λe r h' =>zbq h h') hx
 | .exit id,_,_,hx=>hx
 | .ret,_,_,hx=>hx
 | .range t ps a b,e,r,hx=>zto (λe r h' =>zbq h h') (λe r h' =>zbq h h') hx
theorem zf0{c:Nat->zai}{C:zai}(H:zgu c C):∀{q:zaa} {e:Env} {r:Ex×Env},evQ P io C zan q e=some r-> ∃n,evQ P io (c n) zan q e=some r
 | .skip,_,_,hx=>⟨0,hx⟩
 | .ice _,_,_,hx=>⟨0,hx⟩
 | .ops l,e,r,hx=>by
   simp only[evQ,Option.then_]at hx ⊢;split at hx
   ·rename_i e1 h1;obtain⟨n,hn⟩:=ztm H h1;exact⟨n,by rw[hn];exact hx⟩
   ·cases hx
 | .free qs ws,e,r,hx=>by
   simp only[evQ,Option.then_]at hx ⊢;split at hx
   ·rename_i e1 h1;obtain⟨n,hn⟩:=z0j H h1;exact⟨n,by rw[hn];exact hx⟩
   ·cases hx
 | .draw w hd tl,e,r,hx=>by
   simp only[evQ,Option.then_]at hx ⊢;split at hx
   ·rename_i e1 h1;unfold zyx at h1 ⊢;simp only[Option.then_]at h1 ⊢;split at h1
    ·rename_i e2 h2;obtain⟨n,hn⟩:=z0i H h2;obtain⟨m,hm⟩:=ztm H h1;refine⟨max n m,?_⟩;rw[zkz (H.mono n _ (Nat.le_max_left _ _)) hn];simp only[zi7 (H.mono m _ (Nat.le_max_right _ _)) hm];exact hx
    ·cases h1
   ·cases hx
 | .seq a b,e,r,hx=>by
   simp only[evQ,Option.then_]at hx ⊢;split at hx
   ·rename_i x h1;obtain⟨n,hn⟩:=zf0 H h1;obtain⟨ex,e1⟩:=x
    cases ex with
    |n=>
     obtain⟨m,hm⟩:=zf0 H (q:=b) hx;refine⟨max n m,?_⟩;rw[zbq (H.mono n _ (Nat.le_max_left _ _)) hn];exact zbq (H.mono m _ (Nat.le_max_right _ _)) hm
    |_=>exact⟨n,by rw[hn];exact hx⟩
   ·cases hx
 | .cond k a b,e,r,hx=>by
   simp only[evQ]at hx ⊢;split at hx
   ·split at hx
    ·rename_i ht;obtain⟨n,hn⟩:=zf0 H hx;exact⟨n,by rw[if_pos ht];exact hn⟩
    ·rename_i ht;obtain⟨n,hn⟩:=zf0 H hx;exact⟨n,by rw[if_neg ht];exact hn⟩
   ·cases hx
 | .block id a,e,r,hx=>by
   simp only[evQ,Option.then_]at hx ⊢;split at hx
   ·rename_i x h1;obtain⟨n,hn⟩:=zf0 H h1;exact⟨n,by rw[hn];exact hx⟩
   ·cases hx
 | .loop a,e,r,hx=>by
   simp only[evQ]at hx ⊢;obtain⟨k,hk⟩:=zcs hx
   have:∀(k:Nat) (e:Env),iter (evQ P io C zan a) k e=some r-> ∃n,iter (evQ P io (c n) zan a) k e=some r:=by
    intro k
    induction k with
    |zero=>intro e h;cases h
    |succ k ih=>
     intro e hi;rw[iter]at hi
     cases hf:evQ P io C zan a e with
     |none=>rw[hf]at hi;cases hi
     |some x=>
      obtain⟨ex,e1⟩:=x;rw[hf]at hi;obtain⟨n,hn⟩:=zf0 H hf
      cases ex with
      |n=>
       obtain⟨m,hm⟩:=ih e1 hi;refine⟨max n m,?_⟩;rw[iter,zbq (H.mono n _ (Nat.le_max_left _ _)) hn]
       have up:∀(k:Nat) (e:Env),iter (evQ P io (c m) zan a) k e=some r->iter (evQ P io (c (max n m)) zan a) k e=some r:=by
        intro k e h;have:=zkn (λe r h' =>zbq (H.mono m _ (Nat.le_max_right n m)) h') (zc6 h)
        have gen:∀(k:Nat) (e:Env),iter (evQ P io (c m) zan a) k e=some r->iter (evQ P io (c (max n m)) zan a) k e=some r:=by
         intro k
         induction k with
         |zero=>intro e h;cases h
         |succ k ih2=>
          intro e hi;rw[iter]at hi ⊢
          cases hf:evQ P io (c m) zan a e with
          |none=>rw[hf]at hi;cases hi
          |some x=>
           obtain⟨ex,e1⟩:=x;rw[hf]at hi;rw[zbq (H.mono m _ (Nat.le_max_right n m)) hf]
           cases ex with
           |n=>exact ih2 e1 hi
           |_=>exact hi
        exact gen k e h
       exact up k e1 hm
      |x i=>exact⟨n,by rw[iter,hn];exact hi⟩
      |r=>exact⟨n,by rw[iter,hn];exact hi⟩
   obtain⟨n,hn⟩:=this k e hk;exact⟨n,zc6 hn⟩
 | .exit id,_,_,hx=>⟨0,hx⟩
 | .ret,_,_,hx=>⟨0,hx⟩
 | .range t ps a b,e,r,hx=>zwx (fa:=λn=>evQ P io (c n) zan a) (fb:=λn=>evQ P io (c n) zan b) (λn m hnm e r h' =>zbq (H.mono n m hnm) h') (λn m hnm e r h' =>zbq (H.mono n m hnm) h') (λe r h' =>zf0 H h') (λe r h' =>zf0 H h') hx
theorem zrg{c c':zai}(h:zcl c c'){q:QFn}{args:List A}{bx:zas}{r:V×zas}(hx:zdp P io c zan q args bx=some r):zdp P io c' zan q args bx=some r:=by
 unfold zdp at hx ⊢;simp only[Option.then_]at hx ⊢;split at hx
 ·rename_i x h1;rw[zbq h h1];exact hx
 ·cases hx
theorem ztp{c:Nat->zai}{C:zai}(H:zgu c C){q:QFn}{args:List A}{bx:zas}{r:V×zas}(hx:zdp P io C zan q args bx=some r):∃n,zdp P io (c n) zan q args bx=some r:=by
 unfold zdp at hx ⊢;simp only[Option.then_]at hx ⊢;split at hx
 ·rename_i x h1;obtain⟨n,hn⟩:=zf0 H h1;exact⟨n,by rw[hn];exact hx⟩
 ·cases hx
theorem zrh(X:zai):∀n,zcl (evFQ P io X zan n) (evFQ P io X zan (n+1))
 |0=> λf as bx r h=>by cases h
 |n+1=> λf as bx r h=>by
  rw[evFQ]at h ⊢;split at h
  ·exact h
  ·split at h
   ·split at h
    ·exact zrg (zrh X n) h
    ·cases h
   ·cases h
theorem zmf(X:zai)(n m:Nat)(h:n<=m):zcl (evFQ P io X zan n) (evFQ P io X zan m):=by
 induction h with
 |refl=>exact λ_ _ _ _ h=>h
 |step _ ih=>exact λf as bx r h=>zrh X _ f as bx r (ih f as bx r h)
end
noncomputable def ze1(P:Program)(io:FuncId->List Nat)(X:zai):zai:=λf as bx=>open Classical in if h:∃r,∃n,evFQ P io X zan n f as bx=some r then some h.choose else none
theorem z3l(P:Program)(io:FuncId->List Nat)(X:zai):zgu (evFQ P io X zan) (ze1 P io X) where
 mono:=zmf X
 lim:=λf as bx r h=>by
  unfold ze1 at h;split at h
  ·rename_i hex;have:=hex.choose_spec;rwa [Option.some.inj h]at this
  ·cases h
 le:=λn f as bx r h=>by
  unfold ze1;have hex:∃r,∃n,evFQ P io X zan n f as bx=some r:=⟨r,n,h⟩;rw[dif_pos hex];obtain⟨m,hm⟩:=hex.choose_spec;have h1:=zmf X m _ (Nat.le_max_left m n) _ _ _ _ hm;have h2:=zmf X n _ (Nat.le_max_right m n) _ _ _ _ h;rw[h1]at h2;exact congrArg some (Option.some.inj h2)
theorem zfi{P:Program}{io:FuncId->List Nat}{X:zai}{f:FuncId}{as:List A}{bx:zas}{r:V×zas}(h:X f as bx=some r):ze1 P io X f as bx=some r:=by
 refine(z3l P io X).le 1 f as bx r ?_;rw[evFQ,h]
theorem zri{P:Program}{io:FuncId->List Nat}{X:zai}{f:FuncId}{as:List A}{bx:zas}{r:V×zas}{fn:Func}{q:QFn}(hf:P.funcs[f]? =some fn)(hq:zao fn=some q)(hX:X f as bx=none)(h:zdp P io (ze1 P io X) zan q as bx=some r):ze1 P io X f as bx=some r:=by
 obtain⟨n,hn⟩:=ztp (z3l P io X) h;refine(z3l P io X).le (n+1) f as bx r ?_;rw[evFQ,hX];simp only[hf,hq];exact hn
theorem zpd[Base]{P:Program}(hT:zo2 P){io:FuncId->List Nat}{X:zai}(hm:P.follows .mixedOrders=true)(hX:zav P X)(hseq:z3i P io)(hname:∀(f:FuncId) (fn:Func),P.funcs[f]? =some fn->fn.name≠ "runtime.NumGoroutine"):zav P (ze1 P io X):=λf as bx r bx' h=>by
 obtain⟨n,hn⟩:=(z3l P io X).lim f as bx _ h;exact zvd hT hm hX (λf e r h=>zcs h) hseq hname n f as bx r bx' hn
theorem zwz(f:Env->Res)(e:Env):zan f e=match f e with
 |some (.n,e')=>zan f e'
 |r=>r:=by
 cases hf:f e with
 |none=>
  cases h:zan f e with
  |none=>rfl
  |some r=>
   obtain⟨n,hn⟩:=zcs h
   cases n with
   |zero=>cases hn
   |succ n=>rw[iter,hf]at hn;cases hn
 |some x=>
  obtain⟨ex,e'⟩:=x
  cases ex with
  |n=>
   dsimp only
   cases h:zan f e' with
   |some r=>
    obtain⟨n,hn⟩:=zcs h;exact zc6 (n:=n+1) (by rw[iter,hf];exact hn)
   |none=>
    cases h':zan f e with
    |none=>rfl
    |some r=>
     obtain⟨n,hn⟩:=zcs h'
     cases n with
     |zero=>cases hn
     |succ n=>
      rw[iter,hf]at hn;rw[zc6 hn]at h;cases h
  |x i=>exact zc6 (n:=1) (by rw[iter,hf])
  |r=>exact zc6 (n:=1) (by rw[iter,hf])
end Go.Qz
namespace Go.Qz
variable{P:Program}
end Go.Qz
