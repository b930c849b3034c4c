import Derived.Test.YtcadiohekccmiaaGreatDoorQm0
import Derived.Test.YtcadiohekccmiaaGreatDoorQb3
namespace Go.Qz
def zcw(c c':zal):Prop:=∀f as bx r,c f as bx=some r->c' f as bx=some r
structure zh7(c:Nat->zal)(C:zal):Prop where
 mono:∀n m,n<=m->zcw (c n) (c m)
 lim:∀f as bx r,C f as bx=some r-> ∃n,c n f as bx=some r
 le:∀n,zcw (c n) C
section
variable{P:Program}{io:FuncId->List Nat}
theorem zea{c c':zal}(h:zcw c c'){e:Env}{f:FuncId}{caps:List Cap}{args:List Operand}{tys:List TypeId}{x:V×Env}(hx:zck P io c e f caps args tys=some x):zck P io c' e f caps args tys=some x:=by
 unfold zck at hx ⊢;split at hx
 ·rename_i as m bx hp;split at hx
  ·rename_i r bx' hc;simp only[h _ _ _ _ hc];exact hx
  ·cases hx
 ·cases hx
theorem zwn{c c':zal}(h:zcw c c'){e:Env}{f:FuncId}{caps:List Cap}{args:List Operand}{tys:List TypeId}{x:V×Env}(hx:zf1 P io c e f caps args tys=some x):zf1 P io c' e f caps args tys=some x:=by
 unfold zf1 at hx ⊢;split at hx
 ·rename_i as m bx hp;split at hx
  ·rename_i r bx' hc;simp only[h _ _ _ _ hc];split at hx
   ·rename_i hok;rw[if_pos hok];exact hx
   ·rename_i hok;rw[if_neg hok];exact zea h hx
  ·cases hx
 ·exact zea h hx
theorem zjs{c:Nat->zal}{C:zal}(H:zh7 c C){e:Env}{f:FuncId}{caps:List Cap}{args:List Operand}{tys:List TypeId}{x:V×Env}(hx:zck P io C e f caps args tys=some x):∃n,zck P io (c n) e f caps args tys=some x:=by
 unfold zck at hx ⊢;split at hx
 ·rename_i as m bx hp;split at hx
  ·rename_i r bx' hc;obtain⟨n,hn⟩:=H.lim _ _ _ _ hc;refine⟨n,?_⟩;simp only[hn];exact hx
  ·cases hx
 ·cases hx
theorem z0o{c:Nat->zal}{C:zal}(H:zh7 c C){e:Env}{f:FuncId}{caps:List Cap}{args:List Operand}{tys:List TypeId}{x:V×Env}(hx:zf1 P io C e f caps args tys=some x):∃n,zf1 P io (c n) e f caps args tys=some x:=by
 unfold zf1 at hx ⊢;split at hx
 ·rename_i as m bx hp;split at hx
  ·rename_i r bx' hc;obtain⟨n,hn⟩:=H.lim _ _ _ _ hc;split at hx
   ·rename_i hok;refine⟨n,?_⟩;simp only[hn];rw[if_pos hok];exact hx
   ·rename_i hok;obtain⟨m',hm⟩:=zjs H hx;refine⟨max n m',?_⟩;simp only[H.mono n _ (Nat.le_max_left _ _) _ _ _ _ hn];rw[if_neg hok];exact zea (H.mono m' _ (Nat.le_max_right _ _)) hm
  ·cases hx
 ·exact zjs H hx
theorem ztq{c c':zal}{e:Env}{o:Oper}(h:Op.callsValue o.op=false):evOp P io c e o=evOp P io c' e o:=by
 obtain⟨d,op,ty,p,af,gd⟩:=o
 cases op with
 |call k=>
  obtain⟨callee,args,argTypes⟩:=k
  cases callee with
  |value f=>cases h
  |builtin b=>cases b<;>rfl
  |invoke r m=>rfl
 |store t a x=>cases a<;>rfl
 |makeFunc fn a b=>cases fn<;>rfl
 |extract t i=>cases t<;>rfl
 |_=>rfl
theorem zl9{dst:Option Nat}{x:Option (V×Env)}{e':Env}(h:zm2 dst x=some e'):∃y,x=some y:=by
 cases x with
 |none=>cases h
 |some y=>exact⟨y,rfl⟩
theorem zg0{c c':zal}(h:zcw c c'){t:Nat}{x:D×Env}:∀{l:List (Nat×FuncId)} {e:Env} {d:D},zch io c t l e d=some x->zch io c' t l e d=some x
 | [],_,_,hx=>hx
 |(i,g)::r,e,d,hx=>by
  simp only[zch]at hx ⊢;split at hx
  ·split at hx
   ·split at hx
    ·split at hx
     ·rename_i hok;rw[if_pos hok];split at hx
      ·split at hx
       ·rename_i hc;simp only[h _ _ _ _ hc];split at hx
        ·rename_i hk;rw[if_pos hk];split at hx
         ·exact zg0 h hx
         ·cases hx
        ·cases hx
       ·cases hx
      ·cases hx
     ·cases hx
    ·cases hx
   ·cases hx
  ·cases hx
theorem zma{c:Nat->zal}{C:zal}(H:zh7 c C){t:Nat}{x:D×Env}:∀{l:List (Nat×FuncId)} {e:Env} {d:D},zch io C t l e d=some x-> ∃n,zch io (c n) t l e d=some x
 | [],_,_,hx=>⟨0,hx⟩
 |(i,g)::r,e,d,hx=>by
  simp only[zch]at hx ⊢;split at hx
  ·split at hx
   ·split at hx
    ·split at hx
     ·rename_i hok;simp only[if_pos hok];split at hx
      ·split at hx
       ·rename_i hc;split at hx
        ·rename_i hk;split at hx
         ·rename_i hg';obtain⟨n,hn⟩:=H.lim _ _ _ _ hc;obtain⟨m,hm⟩:=zma H hx;refine⟨max n m,?_⟩;simp only[H.mono n _ (Nat.le_max_left _ _) _ _ _ _ hn];rw[if_pos hk];simp only[hg'];exact zg0 (H.mono m _ (Nat.le_max_right _ _)) hm
         ·cases hx
        ·cases hx
       ·cases hx
      ·cases hx
     ·cases hx
    ·cases hx
   ·cases hx
  ·cases hx
theorem zrb{c c':zal}(h:zcw c c'){e e':Env}{f:FuncId}{args:List Operand}{dst:Option Nat}{l:List Nat}(hx:zdf P io c e f args dst l=some e'):zdf P io c' e f args dst l=some e':=by
 unfold zdf at hx ⊢;split at hx
 ·split at hx
  ·split at hx
   ·split at hx
    ·rename_i hc;rw[if_pos hc];split at hx
     ·split at hx
      ·rename_i hg;simp only[zg0 h hg];exact hx
      ·cases hx
     ·cases hx
    ·cases hx
   ·cases hx
  ·cases hx
 ·cases hx
theorem ztr{c:Nat->zal}{C:zal}(H:zh7 c C){e e':Env}{f:FuncId}{args:List Operand}{dst:Option Nat}{l:List Nat}(hx:zdf P io C e f args dst l=some e'):∃n,zdf P io (c n) e f args dst l=some e':=by
 unfold zdf at hx ⊢;split at hx
 ·split at hx
  ·split at hx
   ·split at hx
    ·rename_i hc;simp only[if_pos hc];split at hx
     ·split at hx
      ·rename_i hg;obtain⟨n,hn⟩:=zma H hg;refine⟨n,?_⟩;simp only[hn];exact hx
      ·cases hx
     ·cases hx
    ·cases hx
   ·cases hx
  ·cases hx
 ·cases hx
theorem zwo{c c':zal}(h:zcw c c'){e e':Env}{f:FuncId}{caps:List Cap}{args:List Operand}{tys:List TypeId}{dst:Option Nat}(hx:zfo P io c e f caps args tys dst=some e'):zfo P io c' e f caps args tys dst=some e':=by
 unfold zfo at hx ⊢;split at hx
 ·rename_i hsp;rw[if_pos hsp];split at hx
  ·exact zrb h hx
  ·cases hx
 rename_i hsp;rw[if_neg hsp];split at hx
 ·rename_i as hp;split at hx
  ·rename_i cs hc;simp only[h _ _ _ _ hc];exact hx
  ·rename_i d hc;simp only[h _ _ _ _ hc];obtain⟨y,hy⟩:=zl9 hx;rw[hy]at hx;rw[zea h hy];exact hx
  ·cases hx
 ·cases hx
theorem z0p{c:Nat->zal}{C:zal}(H:zh7 c C){e e':Env}{f:FuncId}{caps:List Cap}{args:List Operand}{tys:List TypeId}{dst:Option Nat}(hx:zfo P io C e f caps args tys dst=some e'):∃n,zfo P io (c n) e f caps args tys dst=some e':=by
 unfold zfo at hx;split at hx
 ·rename_i hsp;split at hx
  ·obtain⟨n,hn⟩:=ztr H hx;exact⟨n,by unfold zfo;rw[if_pos hsp];exact hn⟩
  ·cases hx
 rename_i hsp;split at hx
 ·rename_i as hp;split at hx
  ·rename_i cs hc;obtain⟨n,hn⟩:=H.lim _ _ _ _ hc;refine⟨n,?_⟩;unfold zfo;rw[if_neg hsp,hp];simp only[hn];exact hx
  ·rename_i d hc;obtain⟨n,hn⟩:=H.lim _ _ _ _ hc;obtain⟨y,hy⟩:=zl9 hx;obtain⟨m',hm⟩:=zjs H hy;rw[hy]at hx;refine⟨max n m',?_⟩;unfold zfo;rw[if_neg hsp,hp];simp only[H.mono n _ (Nat.le_max_left _ _) _ _ _ _ hn];rw[zea (H.mono m' _ (Nat.le_max_right _ _)) hm];exact hx
  ·cases hx
 ·cases hx
theorem z4a{c c':zal}(h:zcw c c'){e e':Env}{o:Oper}(hx:evOp P io c e o=some e'):evOp P io c' e o=some e':=by
 cases hv:Op.callsValue o.op with
 |false=>rw[<-ztq hv (c:=c)];exact hx
 |true=>
  obtain⟨d,op,ty,p,af,gd⟩:=o
  cases op with
  |call k=>
   obtain⟨callee,args,argTypes⟩:=k
   cases callee with
   |value f=>
    simp only[evOp]at hx ⊢;split at hx
    ·rename_i g caps hg;split at hx
     ·rename_i hop;rw[if_pos hop];exact zwo h hx
     ·rename_i hop;rw[if_neg hop];split at hx
      ·rename_i v e1 hc;simp only[zwn h hc];exact hx
      ·cases hx
    ·cases hx
   |_=>cases hv
  |_=>cases hv
theorem z8e{c:Nat->zal}{C:zal}(H:zh7 c C){e e':Env}{o:Oper}(hx:evOp P io C e o=some e'):∃n,evOp P io (c n) e o=some e':=by
 cases hv:Op.callsValue o.op with
 |false=>exact⟨0,by rw[ztq hv (c':=C)];exact hx⟩
 |true=>
  obtain⟨d,op,ty,p,af,gd⟩:=o
  cases op with
  |call k=>
   obtain⟨callee,args,argTypes⟩:=k
   cases callee with
   |value f=>
    simp only[evOp]at hx ⊢;split at hx
    ·rename_i g caps hg;split at hx
     ·rename_i hop;obtain⟨n,hn⟩:=z0p H hx;exact⟨n,by rw[if_pos hop];exact hn⟩
     ·rename_i hop;split at hx
      ·rename_i v e1 hc;obtain⟨n,hn⟩:=z0o H hc;refine⟨n,?_⟩;rw[if_neg hop];simp only[hn];exact hx
      ·cases hx
    ·cases hx
   |_=>cases hv
  |_=>cases hv
theorem zex{c c':zal}(h:zcw c c'){q:QOp}{e e':Env}(hx:zdc P io c q e=some e'):zdc P io c' q e=some e':=by
 unfold zdc at hx ⊢;split at hx
 ·rename_i hg;exact z4a h hx
 ·exact hx
 ·cases hx
theorem zts{c:Nat->zal}{C:zal}(H:zh7 c C){q:QOp}{e e':Env}(hx:zdc P io C q e=some e'):∃n,zdc P io (c n) q e=some e':=by
 unfold zdc at hx ⊢;split at hx
 ·exact z8e H hx
 ·exact⟨0,hx⟩
 ·cases hx
theorem zko{c c':zal}(h:zcw c c'):∀{l:List QOp} {e e':Env},evL P io c l e=some e' ->evL P io c' l e=some e'
 | [],_,_,hx=>hx
 |q::r,e,e',hx=>by
  simp only[evL,Option.then_]at hx ⊢;split at hx
  ·rename_i e1 h1;rw[zex h h1];exact zko h hx
  ·cases hx
theorem zwp{c:Nat->zal}{C:zal}(H:zh7 c C):∀{l:List QOp} {e e':Env},evL P io C l e=some e' -> ∃n,evL P io (c n) l e=some e'
 | [],_,_,hx=>⟨0,hx⟩
 |q::r,e,e',hx=>by
  simp only[evL,Option.then_]at hx ⊢;split at hx
  ·rename_i e1 h1;obtain⟨n,hn⟩:=zts H h1;obtain⟨m,hm⟩:=zwp H hx;refine⟨max n m,?_⟩;rw[zex (H.mono n _ (Nat.le_max_left _ _)) hn];exact zko (H.mono m _ (Nat.le_max_right _ _)) hm
  ·cases hx
theorem zmb{c:zal}{e:Env}{f:FuncId}{caps:List Cap}{args:List Operand}{tys:List TypeId}{x:V}(hx:zcx P io c e f caps args tys=some x):
 args.length=tys.length/\ ∃vs,za9 P e (args.zip tys)=some vs/\ ∃as m,lend e (io f) 0 (vs.zip (args.map zi2)++zcj caps)=some (as,m)/\m.all Lent.isRead=true/\ ∃bx',c f as []=some (x,bx')/\zox m x bx' =true:=by
 have hno:=ze3 hx;unfold zcx at hx;rw[hno]at hx;simp only[Bool.false_eq_true,if_false]at hx;split at hx
 ·rename_i h1;split at hx
  ·rename_i vs h2;split at hx
   ·rename_i as m h3;split at hx
    ·rename_i h4;split at hx
     ·rename_i r bx' h5;split at hx
      ·rename_i h6;obtain rfl:=Option.some.inj hx;exact⟨h1,vs,h2,as,m,h3,h4,bx',h5,h6⟩
      ·cases hx
     ·cases hx
    ·cases hx
   ·cases hx
  ·cases hx
 ·cases hx
theorem zwq{c c':zal}(h:zcw c c'){e:Env}{f:FuncId}{caps:List Cap}{args:List Operand}{tys:List TypeId}{x:V}(hx:zcx P io c e f caps args tys=some x):zcx P io c' e f caps args tys=some x:=by
 obtain⟨h1,vs,h2,as,m,h3,h4,bx',h5,h6⟩:=zmb hx;have hno:=ze3 hx;unfold zcx;simp only[hno,h1,h2,h3,h4,h _ _ _ _ h5,h6,if_true,Bool.false_eq_true,if_false]
theorem z0q{c:Nat->zal}{C:zal}(H:zh7 c C){e:Env}{f:FuncId}{caps:List Cap}{args:List Operand}{tys:List TypeId}{x:V}(hx:zcx P io C e f caps args tys=some x):∃n,zcx P io (c n) e f caps args tys=some x:=by
 obtain⟨h1,vs,h2,as,m,h3,h4,bx',h5,h6⟩:=zmb hx;obtain⟨n,hn⟩:=H.lim _ _ _ _ h5;have hno:=ze3 hx;exact⟨n,by unfold zcx;simp only[hno,h1,h2,h3,h4,hn,h6,if_true,Bool.false_eq_true,if_false]⟩
theorem zp3{c c':zal}{ds:List Nat}{e:Env}{ty:TypeId}{op:Op}(h:Op.callsValue op=false):zbh P io c ds e ty op=zbh P io c' ds e ty op:=by
 cases op with
 |call k=>
  obtain⟨callee,args,argTypes⟩:=k
  cases callee with
  |value f=>cases h
  |builtin b=>cases b<;>rfl
  |invoke r m=>rfl
 |_=>rfl
theorem z0r{c c':zal}(h:zcw c c'){ds:List Nat}{e:Env}{ty:TypeId}{op:Op}{x:V×Option Nat}(hx:zbh P io c ds e ty op=some x):zbh P io c' ds e ty op=some x:=by
 cases hv:Op.callsValue op with
 |false=>rw[<-zp3 hv (c:=c)];exact hx
 |true=>
  cases op with
  |call k=>
   obtain⟨callee,args,argTypes⟩:=k
   cases callee with
   |value f=>
    simp only[zbh]at hx ⊢;split at hx
    ·rename_i g caps hg
     cases hq:zcx P io c e g caps args.toList argTypes.toList with
     |none=>rw[hq]at hx;cases hx
     |some v=>rw[zwq h hq];rw[hq]at hx;exact hx
    ·cases hx
   |_=>cases hv
  |_=>cases hv
theorem z4b{c:Nat->zal}{C:zal}(H:zh7 c C){ds:List Nat}{e:Env}{ty:TypeId}{op:Op}{x:V×Option Nat}(hx:zbh P io C ds e ty op=some x):∃n,zbh P io (c n) ds e ty op=some x:=by
 cases hv:Op.callsValue op with
 |false=>exact⟨0,by rw[zp3 hv (c':=C)];exact hx⟩
 |true=>
  cases op with
  |call k=>
   obtain⟨callee,args,argTypes⟩:=k
   cases callee with
   |value f=>
    simp only[zbh]at hx ⊢;split at hx
    ·rename_i g caps hg
     cases hq:zcx P io C e g caps args.toList argTypes.toList with
     |none=>rw[hq]at hx;cases hx
     |some v=>
      obtain⟨n,hn⟩:=z0q H hq;exact⟨n,by rw[hn];rw[hq]at hx;exact hx⟩
    ·cases hx
   |_=>cases hv
  |_=>cases hv
theorem zyu{c:zal}{ds:List Nat}{e:Env}{op:Op}{x:V×Nat×List A}(h:wrV P io c ds e op=some x):(∃g us bx r,c g us bx=some r/\
 (∀c':zal,c' g us bx=some r->wrV P io c' ds e op=some x)/\ ∀(c':zal) (ty:TypeId),zbh P io c' ds e ty op=none)∨ ∀c':zal,wrV P io c' ds e op=some x/\ ∀ty:TypeId,zbh P io c' ds e ty op=none:=by
 unfold wrV at h;split at h
 rotate_left
 ·exact .inr (λc' =>⟨h,λty=>rfl⟩)
 ·cases h
 ·rename_i k;obtain⟨callee,args,argTypes⟩:=k
  cases callee with
  |value f=>
   dsimp only at h;split at h
   ·rename_i g hf;split at h
    ·cases h
    ·rename_i hop;split at h
     ·rename_i hlen;split at h
      ·rename_i vs hvs;split at h
       ·rename_i us n b' m hl;split at h
        ·rename_i hc;split at h
         ·rename_i cs0 hb;split at h
          ·rename_i hpo;split at h
           ·rename_i r bx' hcall;refine .inl ⟨g,us,[(n,cs0)],(r,bx'),hcall,λc' hc' =>?_,λc' ty=>?_⟩
            ·unfold wrV;dsimp only;rw[hf];dsimp only;rw[if_neg hop,if_pos hlen,hvs];dsimp only;rw[hl];dsimp only;rw[if_pos hc,hb];dsimp only;rw[if_pos hpo,hc'];exact h
            ·simp only[zbh,hf,zk3]
             have:zcx P io c' e g [] args.toList argTypes.toList=none:=by
              unfold zcx;rw[if_neg hop,if_pos hlen,hvs];dsimp only;rw[show zcj []=[]from rfl,List.append_nil,hl]
              rfl
             rw[this];rfl
           ·cases h
          ·cases h
         ·cases h
        ·cases h
       ·cases h
      ·cases h
     ·cases h
   ·cases h
  |_=>cases h
theorem ztt{c:zal}{ds:List Nat}{q:QOp}{e:Env}{v:V}{t:Option Nat}(hg:zej e q.g=some true)(hv:zbh P io c ds e q.ty q.op=some (v,t))(hc:(iceR (zf4 ds) q.op v).clean ds=true)(hd:zhs e q.dst=true)(hf:zoz ds e q.op=true):stpQ P io c ds q e=some ⟨q.dst,iceR (zf4 ds) q.op v,t,none⟩:=by
 unfold stpQ;rw[hg,hv];simp only[stp1,hc,hd,hf];rfl
theorem zrc{c:zal}{ds:List Nat}{q:QOp}{e:Env}{v:V}{b:Nat}{cs:List A}(hg:zej e q.g=some true)(hn:zbh P io c ds e q.ty q.op=none)(hw:wrV P io c ds e q.op=some (v,b,cs))(hc:v.clean ds=true)(hd:zhs e q.dst=true)(hf:fitD q.dst q.op=true):stpQ P io c ds q e=some ⟨q.dst,v,none,some (b,cs)⟩:=by
 unfold stpQ;rw[hg,hn,hw];simp only[stp1,hc,hd,hf];rfl
theorem ztu{c c':zal}{ds:List Nat}{q:QOp}{e:Env}(hg:zej e q.g=some false):stpQ P io c ds q e=stpQ P io c' ds q e:=by
 unfold stpQ;rw[hg]
theorem ztv{c c':zal}(h:zcw c c'){ds:List Nat}{q:QOp}{e:Env}{s:Stp}(hx:stpQ P io c ds q e=some s):stpQ P io c' ds q e=some s:=by
 obtain⟨h1,h2,h3,⟨hg,_⟩|⟨hg,⟨v,t,hv,hf,rfl⟩|⟨v,b,cs,_,hw,rfl,hfd⟩⟩⟩:=zdt hx
 ·rw[<-ztu hg];exact hx
 ·exact ztt hg (z0r h hv) h3 h2 hf
 ·rcases zyu hw with⟨g,us,bx,r,k1,k2,k3⟩|k
  ·exact zrc hg (k3 _ _) (k2 _ (h _ _ _ _ k1)) h3 h2 hfd
  ·exact zrc hg ((k _).2 _) (k _).1 h3 h2 hfd
theorem z8f{c:Nat->zal}{C:zal}(H:zh7 c C){ds:List Nat}{q:QOp}{e:Env}{s:Stp}(hx:stpQ P io C ds q e=some s):∃n,stpQ P io (c n) ds q e=some s:=by
 obtain⟨h1,h2,h3,⟨hg,_⟩|⟨hg,⟨v,t,hv,hf,rfl⟩|⟨v,b,cs,_,hw,rfl,hfd⟩⟩⟩:=zdt hx
 ·exact⟨0,by rw[<-ztu hg];exact hx⟩
 ·obtain⟨n,hn⟩:=z4b H hv;exact⟨n,ztt hg hn h3 h2 hf⟩
 ·rcases zyu hw with⟨g,us,bx,r,k1,k2,k3⟩|k
  ·obtain⟨n,hn⟩:=H.lim _ _ _ _ k1;exact⟨n,zrc hg (k3 _ _) (k2 _ hn) h3 h2 hfd⟩
  ·exact⟨0,zrc hg ((k _).2 _) (k _).1 h3 h2 hfd⟩
theorem zmu{c c':zal}(h:zcw c c'){ds:List Nat}:∀{l:List QOp} {e e':Env},evH P io c ds l e=some e' ->evH P io c' ds l e=some e'
 | [],_,_,hx=>hx
 |q::r,e,e',hx=>by
  simp only[evH,appO]at hx ⊢;split at hx
  ·rename_i s h1;rw[ztv h h1];exact zmu h hx
  ·cases hx
theorem z4c{c:Nat->zal}{C:zal}(H:zh7 c C){ds:List Nat}:∀{l:List QOp} {e e':Env},evH P io C ds l e=some e' -> ∃n,evH P io (c n) ds l e=some e'
 | [],_,_,hx=>⟨0,hx⟩
 |q::r,e,e',hx=>by
  simp only[evH,appO]at hx ⊢;split at hx
  ·rename_i s h1;obtain⟨n,hn⟩:=z8f H h1;obtain⟨m,hm⟩:=z4c H hx;refine⟨max n m,?_⟩;rw[ztv (H.mono n _ (Nat.le_max_left _ _)) hn];exact zmu (H.mono m _ (Nat.le_max_right _ _)) hm
  ·cases hx
theorem zmc{f f':Env->Res}(h:∀e r,f e=some r->f' e=some r){e:Env}{r:Ex×Env}(hx:zaq f e=some r):zaq f' e=some r:=by
 obtain⟨n,hn⟩:=zc7 hx
 have:∀(n:Nat) (e:Env),iter f n e=some r->iter f' n e=some r:=by
  intro n
  induction n with
  |zero=>intro e h;cases h
  |succ n ih=>
   intro e hi;rw[iter]at hi ⊢
   cases hf:f e with
   |none=>rw[hf]at hi;cases hi
   |some x=>
    obtain⟨ex,e1⟩:=x;rw[hf]at hi;rw[h _ _ hf]
    cases ex with
    |n=>exact ih e1 hi
    |x i=>exact hi
    |r=>exact hi
 exact zds (this n e hn)
theorem zh8{fa fa' fb fb':Env->Res}(ha:∀e r,fa e=some r->fa' e=some r)(hb:∀e r,fb e=some r->fb' e=some r){ps:List Nat}{o i:Env}{r:Ex×Env}:∀{l:List ByteArray} {e:Env},zcl fa fb ps o i l e=some r->zcl fa' fb' ps o i l e=some r
 | [],_,h=>h
 |x::l,e,h=>by
  simp only[zcl]at h ⊢;split at h
  ·rename_i e1 h1
   cases hfa:fa e1 with
   |none=>rw[hfa]at h;cases h
   |some y=>
    rw[hfa]at h;rw[ha _ _ hfa];obtain⟨ex,e2⟩:=y
    cases ex with
    |n=>
     simp only at h ⊢
     cases hfb:fb e2 with
     |none=>rw[hfb]at h;cases h
     |some z=>
      rw[hfb]at h;rw[hb _ _ hfb];obtain⟨ex2,e3⟩:=z
      cases ex2 with
      |n=>exact zh8 ha hb (l:=l) h
      |_=>exact h
    |_=>exact h
  ·cases h
theorem zwr{fa fa' fb fb':Env->Res}(ha:∀e r,fa e=some r->fa' e=some r)(hb:∀e r,fb e=some r->fb' e=some r){ps:List Nat}{e:Env}{x:Option (FuncId×ByteArray×ByteArray)}{r:Ex×Env}(h:zhu io fa fb ps e x=some r):zhu io fa' fb' ps e x=some r:=by
 unfold zhu at h ⊢;split at h
 ·split at h
  ·rename_i hc;rw[if_pos hc];exact zh8 ha hb h
  ·cases h
 ·cases h
theorem z0s{Fa Fb:Env->Res}{fa fb:Nat->Env->Res}(ma:∀n m,n<=m-> ∀e r,fa n e=some r->fa m e=some r)(mb:∀n m,n<=m-> ∀e r,fb n e=some r->fb m e=some r)(ha:∀e r,Fa e=some r-> ∃n,fa n e=some r)(hb:∀e r,Fb e=some r-> ∃n,fb n e=some r)
 {ps:List Nat} {e:Env} {x:Option (FuncId×ByteArray×ByteArray)} {r:Ex×Env} (h:zhu io Fa Fb ps e x=some r):∃n,zhu io (fa n) (fb n) ps e x=some r:=by
 have key:∀(o i:Env) (l:List ByteArray) (e:Env),zcl Fa Fb ps o i l e=some r-> ∃n,zcl (fa n) (fb n) ps o i l e=some r:=by
  intro o i l
  induction l with
  |nil=>exact λe h=>⟨0,h⟩
  |cons x l ih=>
   intro e h;simp only[zcl]at h;split at h
   ·rename_i e1 h1
    cases hfa:Fa e1 with
    |none=>rw[hfa]at h;cases h
    |some y=>
     rw[hfa]at h;obtain⟨n,hn⟩:=ha _ _ hfa;obtain⟨ex,e2⟩:=y
     cases ex with
     |n=>
      simp only at h
      cases hfb:Fb e2 with
      |none=>rw[hfb]at h;cases h
      |some z=>
       rw[hfb]at h;obtain⟨m,hm⟩:=hb _ _ hfb;obtain⟨ex2,e3⟩:=z
       cases ex2 with
       |n=>
        obtain⟨k,hk⟩:=ih _ h;refine⟨max n (max m k),?_⟩;simp only[zcl,h1,ma n _ (Nat.le_max_left _ _) _ _ hn,mb m (max n (max m k)) (by omega) _ _ hm]
        exact zh8 (ma k _ (by omega)) (mb k _ (by omega)) hk
       |x id=>
        refine⟨max n m,?_⟩;simp only[zcl,h1,ma n _ (Nat.le_max_left _ _) _ _ hn,mb m _ (Nat.le_max_right _ _) _ _ hm];exact h
       |r=>
        refine⟨max n m,?_⟩;simp only[zcl,h1,ma n _ (Nat.le_max_left _ _) _ _ hn,mb m _ (Nat.le_max_right _ _) _ _ hm];exact h
     |x id=>cases h
     |r=>cases h
   ·cases h
 unfold zhu at h ⊢;split at h
 ·split at h
  ·rename_i hc;obtain⟨n,hn⟩:=key _ _ _ _ h;refine⟨n,?_⟩;rw[if_pos hc];exact hn
  ·cases h
 ·cases h
theorem zfu{c c':zal}(h:zcw c c'){qs:List QOp}{ws:List (List Nat)}{F:Env->Prop}:∀{n:Nat} {done:List Nat} {e:Env},zbi P io c qs ws F n done e->zbi P io c' qs ws F n done e
 |0,_,_,hx=>hx
 |n+1,done,e,hx=>⟨hx.1,λi hi=>by
  obtain⟨q,e1,h1,h2,h3⟩:=hx.2 i hi
  exact⟨q,e1,h1,zex h h2,zfu h h3⟩⟩
theorem zmd{c c':zal}(h:zcw c c'){qs:List QOp}{ws:List (List Nat)}{F F0:Env->Prop}:∀{n:Nat} {done:List Nat} {e:Env},zbi P io c qs ws F0 n done e->zbi P io c' qs ws F n done e->zbi P io c qs ws F n done e
 |0,_,_,_,hx=>hx
 |n+1,done,e,h0,hx=>⟨hx.1,λi hi=>by
  obtain⟨q,e1,h1,h2,h3⟩:=h0.2 i hi;obtain⟨q',e1',k1,k2,k3⟩:=hx.2 i hi;obtain rfl:=Option.some.inj (h1.symm.trans k1);obtain rfl:=Option.some.inj ((zex h h2).symm.trans k2)
  exact⟨q,e1,h1,h2,zmd h h3 k3⟩⟩
theorem zn8{c:Nat->zal}{C:zal}(H:zh7 c C){qs:List QOp}{ws:List (List Nat)}{F:Env->Prop}:∀{n:Nat} {done:List Nat} {e:Env},zbi P io C qs ws F n done e-> ∃k,zbi P io (c k) qs ws F n done e
 |0,_,_,hx=>⟨0,hx⟩
 |n+1,done,e,hx=>by
  have key:∀l:List Nat,(∀i∈l,∃q e1,qs[i]? =some q/\zdc P io C q e=some e1/\zbi P io C qs ws F n (i::done) e1)-> ∃k,∀i∈l,∃q e1,qs[i]? =some q/\zdc P io (c k) q e=some e1/\zbi P io (c k) qs ws F n (i::done) e1:=by
   intro l
   induction l with
   |nil=>exact λ_=>⟨0,λi hi=>by cases hi⟩
   |cons a r ih=>
    intro hl;obtain⟨k1,h1⟩:=ih (λi hi=>hl i (List.mem_cons_of_mem _ hi))
    obtain⟨q,e1,g1,g2,g3⟩:=hl a List.mem_cons_self;obtain⟨k2,h2⟩:=zts H g2;obtain⟨k3,h3⟩:=zn8 H g3;refine⟨max k1 (max k2 k3),λi hi=>?_⟩
    rcases List.mem_cons.1 hi with rfl|hi
    ·exact⟨q,e1,g1,zex (H.mono k2 _ (by omega)) h2,zfu (H.mono k3 _ (by omega)) h3⟩
    ·obtain⟨q',e1',m1,m2,m3⟩:=h1 i hi;exact⟨q',e1',m1,zex (H.mono k1 _ (by omega)) m2,zfu (H.mono k1 _ (by omega)) m3⟩
  obtain⟨k,hk⟩:=key _ hx.2;exact⟨k,hx.1,hk⟩
theorem zp4{c:zal}{qs:List QOp}{ws:List (List Nat)}{e e':Env}(hx:zmk P io c qs ws e=some e'):∃F,zbi P io c qs ws F qs.length [] e:=by
 unfold zmk zsh at hx;split at hx
 ·rename_i h;obtain⟨x,h⟩:=h;exact⟨_,h⟩
 ·cases hx
theorem zp5{c c':zal}{qs:List QOp}{ws:List (List Nat)}{e:Env}(h:zcw c c'){F0:Env->Prop}(h0:zbi P io c qs ws F0 qs.length [] e):zmk P io c qs ws e=zmk P io c' qs ws e:=
 congrArg zsh (funext λF=>propext ⟨λhf=>zfu h hf,λhf=>zmd h h0 hf⟩)
theorem z0t{c c':zal}(h:zcw c c'){qs:List QOp}{ws:List (List Nat)}{e e':Env}(hx:zmk P io c qs ws e=some e'):zmk P io c' qs ws e=some e':=by
 obtain⟨F,hF⟩:=zp4 hx;rw[<-zp5 h hF];exact hx
theorem z4d{c:Nat->zal}{C:zal}(H:zh7 c C){qs:List QOp}{ws:List (List Nat)}{e e':Env}(hx:zmk P io C qs ws e=some e'):∃n,zmk P io (c n) qs ws e=some e':=by
 obtain⟨F,hF⟩:=zp4 hx;obtain⟨n,hn⟩:=zn8 H hF;exact⟨n,(zp5 (H.le n) hn).trans hx⟩
theorem zb3{c c':zal}(h:zcw c c'):∀{q:zab} {e:Env} {r:Ex×Env},evQ P io c zaq q e=some r->evQ P io c' zaq q e=some r
 | .skip,_,_,hx=>hx
 | .ice _,_,_,hx=>hx
 | .ops l,e,r,hx=>by
   simp only[evQ,Option.then_]at hx ⊢;split at hx
   ·rename_i e1 h1;rw[zko h h1];exact hx
   ·cases hx
 | .free qs ws,e,r,hx=>by
   simp only[evQ,Option.then_]at hx ⊢;split at hx
   ·rename_i e1 h1;rw[z0t h h1];exact hx
   ·cases hx
 | .draw w hd tl,e,r,hx=>by
   simp only[evQ,Option.then_]at hx ⊢;split at hx
   ·rename_i e1 h1;unfold z2l at h1 ⊢;simp only[Option.then_]at h1 ⊢;split at h1
    ·rename_i e2 h2;rw[zmu h h2];simp only[zko h h1];exact hx
    ·cases h1
   ·cases hx
 | .seq a b,e,r,hx=>by
   simp only[evQ,Option.then_]at hx ⊢;split at hx
   ·rename_i x h1;rw[zb3 h h1];obtain⟨ex,e1⟩:=x
    cases ex with
    |n=>exact zb3 h (q:=b) hx
    |_=>exact hx
   ·cases hx
 | .cond k a b,e,r,hx=>by
   simp only[evQ]at hx ⊢;split at hx
   ·split at hx
    ·rename_i ht;rw[if_pos ht];exact zb3 h hx
    ·rename_i ht;rw[if_neg ht];exact zb3 h hx
   ·cases hx
 | .block id a,e,r,hx=>by
   simp only[evQ,Option.then_]at hx ⊢;split at hx
   ·rename_i x h1;rw[zb3 h h1];exact hx
   ·cases hx
 | .loop a,e,r,hx=>zmc (λe r h' =>zb3 h h') hx
 | .exit id,_,_,hx=>hx
 | .ret,_,_,hx=>hx
 | .range t ps a b,e,r,hx=>zwr (λe r h' =>zb3 h h') (λe r h' =>zb3 h h') hx
theorem zg1{c:Nat->zal}{C:zal}(H:zh7 c C):∀{q:zab} {e:Env} {r:Ex×Env},evQ P io C zaq q e=some r-> ∃n,evQ P io (c n) zaq q e=some r
 | .skip,_,_,hx=>⟨0,hx⟩
 | .ice _,_,_,hx=>⟨0,hx⟩
 | .ops l,e,r,hx=>by
   simp only[evQ,Option.then_]at hx ⊢;split at hx
   ·rename_i e1 h1;obtain⟨n,hn⟩:=zwp H h1;exact⟨n,by rw[hn];exact hx⟩
   ·cases hx
 | .free qs ws,e,r,hx=>by
   simp only[evQ,Option.then_]at hx ⊢;split at hx
   ·rename_i e1 h1;obtain⟨n,hn⟩:=z4d H h1;exact⟨n,by rw[hn];exact hx⟩
   ·cases hx
 | .draw w hd tl,e,r,hx=>by
   simp only[evQ,Option.then_]at hx ⊢;split at hx
   ·rename_i e1 h1;unfold z2l at h1 ⊢;simp only[Option.then_]at h1 ⊢;split at h1
    ·rename_i e2 h2;obtain⟨n,hn⟩:=z4c H h2;obtain⟨m,hm⟩:=zwp H h1;refine⟨max n m,?_⟩;rw[zmu (H.mono n _ (Nat.le_max_left _ _)) hn];simp only[zko (H.mono m _ (Nat.le_max_right _ _)) hm];exact hx
    ·cases h1
   ·cases hx
 | .seq a b,e,r,hx=>by
   simp only[evQ,Option.then_]at hx ⊢;split at hx
   ·rename_i x h1;obtain⟨n,hn⟩:=zg1 H h1;obtain⟨ex,e1⟩:=x
    cases ex with
    |n=>
     obtain⟨m,hm⟩:=zg1 H (q:=b) hx;refine⟨max n m,?_⟩;rw[zb3 (H.mono n _ (Nat.le_max_left _ _)) hn];exact zb3 (H.mono m _ (Nat.le_max_right _ _)) hm
    |_=>exact⟨n,by rw[hn];exact hx⟩
   ·cases hx
 | .cond k a b,e,r,hx=>by
   simp only[evQ]at hx ⊢;split at hx
   ·split at hx
    ·rename_i ht;obtain⟨n,hn⟩:=zg1 H hx;exact⟨n,by rw[if_pos ht];exact hn⟩
    ·rename_i ht;obtain⟨n,hn⟩:=zg1 H hx;exact⟨n,by rw[if_neg ht];exact hn⟩
   ·cases hx
 | .block id a,e,r,hx=>by
   simp only[evQ,Option.then_]at hx ⊢;split at hx
   ·rename_i x h1;obtain⟨n,hn⟩:=zg1 H h1;exact⟨n,by rw[hn];exact hx⟩
   ·cases hx
 | .loop a,e,r,hx=>by
   simp only[evQ]at hx ⊢;obtain⟨k,hk⟩:=zc7 hx
   have:∀(k:Nat) (e:Env),iter (evQ P io C zaq a) k e=some r-> ∃n,iter (evQ P io (c n) zaq a) k e=some r:=by
    intro k
    induction k with
    |zero=>intro e h;cases h
    |succ k ih=>
     intro e hi;rw[iter]at hi
     cases hf:evQ P io C zaq a e with
     |none=>rw[hf]at hi;cases hi
     |some x=>
      obtain⟨ex,e1⟩:=x;rw[hf]at hi;obtain⟨n,hn⟩:=zg1 H hf
      cases ex with
      |n=>
       obtain⟨m,hm⟩:=ih e1 hi;refine⟨max n m,?_⟩;rw[iter,zb3 (H.mono n _ (Nat.le_max_left _ _)) hn]
       have up:∀(k:Nat) (e:Env),iter (evQ P io (c m) zaq a) k e=some r->iter (evQ P io (c (max n m)) zaq a) k e=some r:=by
        intro k e h;have:=zmc (λe r h' =>zb3 (H.mono m _ (Nat.le_max_right n m)) h') (zds h)
        have gen:∀(k:Nat) (e:Env),iter (evQ P io (c m) zaq a) k e=some r->iter (evQ P io (c (max n m)) zaq a) k e=some r:=by
         intro k
         induction k with
         |zero=>intro e h;cases h
         |succ k ih2=>
          intro e hi;rw[iter]at hi ⊢
          cases hf:evQ P io (c m) zaq a e with
          |none=>rw[hf]at hi;cases hi
          |some x=>
           obtain⟨ex,e1⟩:=x;rw[hf]at hi;rw[zb3 (H.mono m _ (Nat.le_max_right n m)) hf]
           cases ex with
           |n=>exact ih2 e1 hi
           |_=>exact hi
        exact gen k e h
       exact up k e1 hm
      |x i=>exact⟨n,by rw[iter,hn];exact hi⟩
      |r=>exact⟨n,by rw[iter,hn];exact hi⟩
   obtain⟨n,hn⟩:=this k e hk;exact⟨n,zds hn⟩
 | .exit id,_,_,hx=>⟨0,hx⟩
 | .ret,_,_,hx=>⟨0,hx⟩
 | .range t ps a b,e,r,hx=>z0s (fa:=λn=>evQ P io (c n) zaq a) (fb:=λn=>evQ P io (c n) zaq b) (λn m hnm e r h' =>zb3 (H.mono n m hnm) h') (λn m hnm e r h' =>zb3 (H.mono n m hnm) h') (λe r h' =>zg1 H h') (λe r h' =>zg1 H h') hx
theorem ztw{c c':zal}(h:zcw c c'){q:QFn}{args:List A}{bx:zar}{r:V×zar}(hx:zeh P io c zaq q args bx=some r):zeh P io c' zaq q args bx=some r:=by
 unfold zeh at hx ⊢;simp only[Option.then_]at hx ⊢;split at hx
 ·rename_i x h1;rw[zb3 h h1];exact hx
 ·cases hx
theorem zws{c:Nat->zal}{C:zal}(H:zh7 c C){q:QFn}{args:List A}{bx:zar}{r:V×zar}(hx:zeh P io C zaq q args bx=some r):∃n,zeh P io (c n) zaq q args bx=some r:=by
 unfold zeh at hx ⊢;simp only[Option.then_]at hx ⊢;split at hx
 ·rename_i x h1;obtain⟨n,hn⟩:=zg1 H h1;exact⟨n,by rw[hn];exact hx⟩
 ·cases hx
theorem ztx(X:zal):∀n,zcw (evFQ P io X zaq n) (evFQ P io X zaq (n+1))
 |0=> λf as bx r h=>by cases h
 |n+1=> λf as bx r h=>by
  rw[evFQ]at h ⊢;split at h
  ·exact h
  ·split at h
   ·split at h
    ·exact ztw (ztx X n) h
    ·cases h
   ·cases h
theorem zn9(X:zal)(n m:Nat)(h:n<=m):zcw (evFQ P io X zaq n) (evFQ P io X zaq m):=by
 induction h with
 |refl=>exact λ_ _ _ _ h=>h
 |step _ ih=>exact λf as bx r h=>ztx X _ f as bx r (ih f as bx r h)
end
noncomputable def zc3(P:Program)(io:FuncId->List Nat)(X:zal):zal:=λf as bx=>open Classical in if h:∃r,∃n,evFQ P io X zaq n f as bx=some r then some h.choose else none
theorem z8g(P:Program)(io:FuncId->List Nat)(X:zal):zh7 (evFQ P io X zaq) (zc3 P io X) where
 mono:=zn9 X
 lim:=λf as bx r h=>by
  unfold zc3 at h;split at h
  ·rename_i hex;have:=hex.choose_spec;rwa [Option.some.inj h]at this
  ·cases h
 le:=λn f as bx r h=>by
  unfold zc3;have hex:∃r,∃n,evFQ P io X zaq n f as bx=some r:=⟨r,n,h⟩;rw[dif_pos hex];obtain⟨m,hm⟩:=hex.choose_spec;have h1:=zn9 X m _ (Nat.le_max_left m n) _ _ _ _ hm;have h2:=zn9 X n _ (Nat.le_max_right m n) _ _ _ _ h;rw[h1]at h2;exact congrArg some (Option.some.inj h2)
theorem zca{P:Program}{io:FuncId->List Nat}{X:zal}{f:FuncId}{as:List A}{bx:zar}{r:V×zar}(h:X f as bx=some r):zc3 P io X f as bx=some r:=by
 refine(z8g P io X).le 1 f as bx r ?_;rw[evFQ,h]
theorem zty{P:Program}{io:FuncId->List Nat}{X:zal}{f:FuncId}{as:List A}{bx:zar}{r:V×zar}{fn:Func}{q:QFn}(hf:P.funcs[f]? =some fn)(hq:zap fn=some q)(hX:X f as bx=none)(h:zeh P io (zc3 P io X) zaq q as bx=some r):zc3 P io X f as bx=some r:=by
 obtain⟨n,hn⟩:=zws (z8g P io X) h;refine(z8g P io X).le (n+1) f as bx r ?_;rw[evFQ,hX];simp only[hf,hq];exact hn
theorem zkp[Base]{P:Program}{io:FuncId->List Nat}{X:zal}(hm:P.follows .mixedOrders=true)(hX:zao P X)(hseq:z38 P io)(hname:∀(f:FuncId) (fn:Func),P.funcs[f]? =some fn->fn.name≠ "runtime.NumGoroutine"):zao P (zc3 P io X):=λf as bx r bx' h=>by
 obtain⟨n,hn⟩:=(z8g P io X).lim f as bx _ h;exact zyt hm hX (λf e r h=>zc7 h) hseq hname n f as bx r bx' hn
theorem z0u(f:Env->Res)(e:Env):zaq f e=match f e with
 |some (.n,e')=>zaq f e'
 |r=>r:=by
 cases hf:f e with
 |none=>
  cases h:zaq f e with
  |none=>rfl
  |some r=>
   obtain⟨n,hn⟩:=zc7 h
   cases n with
   |zero=>cases hn
   |succ n=>rw[iter,hf]at hn;cases hn
 |some x=>
  obtain⟨ex,e'⟩:=x
  cases ex with
  |n=>
   dsimp only
   cases h:zaq f e' with
   |some r=>
    obtain⟨n,hn⟩:=zc7 h;exact zds (n:=n+1) (by rw[iter,hf];exact hn)
   |none=>
    cases h':zaq f e with
    |none=>rfl
    |some r=>
     obtain⟨n,hn⟩:=zc7 h'
     cases n with
     |zero=>cases hn
     |succ n=>
      rw[iter,hf]at hn;rw[zds hn]at h;cases h
  |x i=>exact zds (n:=1) (by rw[iter,hf])
  |r=>exact zds (n:=1) (by rw[iter,hf])
end Go.Qz
namespace Go.Qz
variable{P:Program}
theorem Next.of_box{g g':G}{e1 e2 e':Env}{w w':World}(hb:e1.boxes=e2.boxes)(h:Next g e1 w g' e' w'):Next g e2 w g' e' w':=by
 have hm:∀x,Mine g e1 x↔Mine g e2 x:=λx=>by simp only[Mine,Env.box,hb]
 exact⟨h.os,h.tape,h.output,h.size,λx hx hn=>h.old x hx (λhc=>hn ((hm x).1 hc)),λx hx=>(h.mine x hx).imp (hm x).1 id,h.c,λb o v hv=>(h.cnew b o v hv).imp id (λhq=>hq.imp (hm b).1 id),h.lent⟩
theorem FnPost.of_box[Base]{g g':G}{e1 e2:Env}{w w':World}{r:V}{bx:zar}{v:Value}{Y:Nat->Blk}(hb:e1.boxes=e2.boxes)(h:FnPost g e1 w r bx v w' g' Y):FnPost g e2 w r bx v w' g' Y:=by
 have hm:∀x,Mine g e1 x↔Mine g e2 x:=λx=>by simp only[Mine,Env.box,hb]
 exact⟨h.sim,h.hold,h.free,h.next.of_box hb,λk x hx=>(h.mine k x hx).imp (hm x).1 id⟩
theorem ztz[Base]{g:G}{w:World}{vs:Array Value}{ds:List D}{k:Nat}{d':D}(hlt:k<ds.length)(hs:Sim g (zaj ds.length (ds.map .ro) []) vs w)(hr:RO g.c d' (vs.getD k undef)):
 Sim g (zaj ds.length ((ds.set k d').map .ro) []) vs w where
 size:=hs.size
 tv:=λt=>by
  have ht:=hs.tv t;show RepV _ _ _ _ t (match((ds.set k d').map A.ro)[t]? with|some a=>.one a|none=>.undef) _
  by_cases htk:t=k
  ·subst htk;rw[List.getElem?_map,List.getElem?_set_self hlt];exact hr
  ·rw[List.getElem?_map,List.getElem?_set_ne (λh=>htk h.symm)]
   have ht':RepV g (zaj ds.length (ds.map .ro) []) vs w t (match(ds.map A.ro)[t]? with|some a=>.one a|none=>.undef) (vs.getD t undef):=ht
   rw[List.getElem?_map]at ht'
   cases hq:ds[t]? with
   |some d=>rw[hq]at ht';exact ht'
   |none=>rw[hq]at ht';exact ht'
 bx:=λb cs hcs=>by cases hcs
 binj:=λb b' hb=>by cases hb
 sdis:=hs.sdis
 sbox:=λs b x _ hb=>by cases hb
 slt:=hs.slt
 cmem:=hs.cmem
 base:=hs.base
 fix:=hs.fix
 cdis:=λb o v hv=>⟨(hs.cdis b o v hv).1,λid hid=>by cases hid⟩
theorem Post.of_box[Base]{g:G}{e1 e2:Env}{w w':World}{r:V}{bx:zar}{v:Value}(hb:e1.boxes=e2.boxes)(h:Post g e1 w r bx v w'):Post g e2 w r bx v w':=by
 cases r with
 |one a=>obtain⟨g',Y,hp⟩:=h;exact⟨g',Y,hp.of_box hb⟩
 |tup as=>obtain⟨g',Y,hp⟩:=h;exact⟨g',Y,hp.of_box hb⟩
 |agg as=>exact h
theorem ybk[Base]{call:zal}(hcs:zao P call){f:FuncId}{r:V}{z k:Nat}{ds:List D}(hk:ds[k]? =some (.sl z []))(h1:call f ((ds.set k .snil).map .ro) []=some (r,[]))(h2:call f ((ds.set k .sne).map .ro) []=some (r,[])):
 (∃fn,P.funcs[f]? =some fn/\fn.body.isSome=true/\fn.name≠ "runtime.NumGoroutine")/\
 ∀(g:G) (w:World) (vs:Array Value),vs.size=(ds.map A.ro).length->Sim g (zaj (ds.map A.ro).length (ds.map .ro) []) vs w->
  Calls P f vs w (λen w' => ∃v,en=.returned v/\Post g (zaj (ds.map A.ro).length (ds.map .ro) []) w r [] v w'):=by
 obtain⟨hfn,c1⟩:=hcs _ _ _ _ _ h1;obtain⟨_,c2⟩:=hcs _ _ _ _ _ h2;refine⟨hfn,λg w vs hsz hs=>?_⟩
 have hlt:k<ds.length:=(List.getElem?_eq_some_iff.1 hk).1
 have hro:RO g.c (.sl z []) (vs.getD k undef):=by
  have ht:=hs.tv k;have ht':RepV g (zaj (ds.map A.ro).length (ds.map .ro) []) vs w k (match(ds.map A.ro)[k]? with|some a=>.one a|none=>.undef) (vs.getD k undef):=ht
  rw[List.getElem?_map,hk]at ht';exact ht'
 rw[List.length_map]at hs
 have key:∀(d':D),RO g.c d' (vs.getD k undef)->(∀(g:G) (w:World) (vs:Array Value),vs.size=((ds.set k d').map A.ro).length->Sim g (zaj ((ds.set k d').map A.ro).length ((ds.set k d').map .ro) []) vs w->
  Calls P f vs w (λen w' => ∃v,en=.returned v/\Post g (zaj ((ds.set k d').map A.ro).length ((ds.set k d').map .ro) []) w r [] v w'))->
  Calls P f vs w (λen w' => ∃v,en=.returned v/\Post g (zaj (ds.map A.ro).length (ds.map .ro) []) w r [] v w'):=by
  intro d' hr hc;have hl:((ds.set k d').map A.ro).length=ds.length:=by simp
  refine(hc g w vs (by simpa using hsz) (by rw[hl];exact ztz hlt hs hr)).mono ?_
  rintro en w' ⟨v,rfl,hp⟩;exact⟨v,rfl,hp.of_box (by rfl)⟩
 have hcase:RO g.c .snil (vs.getD k undef)∨RO g.c .sne (vs.getD k undef):=by
  generalize vs.getD k undef=v at hro
  cases hro with
  | @sl0 _ a cap=>
    cases a with
    |none=>exact .inl .snil
    |some p=>exact .inr .sne
  | @sl _ _ b off cap u _ _ _ _=>exact .inr .sne
 rcases hcase with hr|hr
 ·exact key _ hr c1
 ·exact key _ hr c2
end Go.Qz
