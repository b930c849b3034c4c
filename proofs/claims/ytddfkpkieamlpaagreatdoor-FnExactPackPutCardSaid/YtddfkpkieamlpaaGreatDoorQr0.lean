import Derived.Test.YtddfkpkieamlpaaGreatDoorQp0
import Derived.Test.YtddfkpkieamlpaaGreatDoorQa0
namespace Go.Qz
variable{P:Program}
theorem zpg[Base]{g g':G}{w w':World}{us:List A}{n:Nat}{cs cs':List A}{r:V}{v:Value}(hs':Sim g' (zba [(n,cs')]) #[] w')(hc:g'.c=g.c)(hβ:g'.β=g.β)(hγ:g'.γ=g.γ)
 (hS:∀s x,g'.S s x->g.S s x) (hos:w'.os=w.os) (htape:w'.tape=w.tape) (hout:w'.output=w.output) (hsize:w.heap.size<=w'.heap.size)
 (hold:∀x,x<w.heap.size-> ¬Mine g (zak us.length us [(n,cs)]) x->w'.heap[x]? =w.heap[x]?) (hr:HoldV g' (zba [(n,cs')]) #[] w' (λ_ _=>False) r v):
 zdt g (zak us.length us [(n,cs)]) w r [(n,cs')] v w' g' (λ_ _=>False) where
 sim:=hs'
 hold:=hr
 free:=zaw _ _ _
 next:={os:=hos,tape:=htape,output:=hout,size:=hsize,old:=hold,c:=by rw[hc];exact λ_ _ _ h=>h,cnew:=λ_ _ _ h=>.inl (by rw[hc]at h;exact h),lent:=λ_ _=>by rw[hβ,hγ];exact⟨rfl,rfl⟩,
        mine:=λx hx=>.inl (hx.imp (λ⟨s,hx⟩=>⟨s,hS s x hx⟩) (λ⟨b,hb,hl,hx⟩=>⟨b,by rw[zcc.1 hb];simp[zak,Env.box,za5],hl,by rw[<-hβ];exact hx⟩))}
 mine:=λ_ _ h=>h.elim
theorem zmi[Base]{g:G}{us:List A}{n:Nat}{cs:List A}{vs:Array Value}{w:World}(hs:Sim g (zak us.length us [(n,cs)]) vs w)(hlt:n<zab):
 ∃arr el,w.heap[g.β n]? =some (.cells arr el (0,0))/\arr.size=cs.length/\ ∀o a,cs[o]? =some a->a.portable=true/\(arr.getD o undef).oneCell' =true/\RepA g (zak us.length us [(n,cs)]) vs w (.cell n o) a (arr.getD o undef):=by
 have hb:=hs.bx n cs (by simp[zak,Env.box,za5])
 unfold RepBox at hb;rwa [if_neg (by omega)]at hb
theorem zmj[Base]{g:G}{n:Nat}{r:List A}{cs:List A}{vs:Array Value}{w:World}(hs:Sim g (zak (A.ptr n 0::r).length (A.ptr n 0::r) [(n,cs)]) vs w)(hlt:n<zab):vs.getD 0 undef=.pointer (some ⟨g.β n,0,none⟩):=
 (zmg hs (k:=0) (a:=.ptr n 0) rfl) (by simp[zak,Env.box,za5]) hlt
theorem zts{vs:Array Value}(h:vs.size=1):vs= #[vs.getD 0 undef]:=by
 refine Array.ext (by simpa using h) (λk hk hk' =>?_)
 have:k=0:=by omega
 subst this;simp[Array.getD_eq_getD_getElem?,hk]
theorem zw5[Base]{f:FuncId}{T:TypeId}(hb:zb0 P f){n:Nat}{a1:A}(hn:n<zab)
 (hc:∀(b:Nat) (w:World),w.cell? ⟨b,0,none⟩=some (.pointer none)->w.shape? b=some (T,2)->w.frozen? ⟨b,0,none⟩=false->
  Calls P f #[.pointer (some ⟨b,0,none⟩)] w λe w' =>e=.returned (.tuple #[])/\w' =w.setCell ⟨b,0,none⟩ (.pointer (some ⟨b,0,none⟩))):
 zb0 P f/\ ∀(g:G) (w:World) (vs:Array Value),vs.size=[A.ptr n 0].length->Sim g (zak [A.ptr n 0].length [A.ptr n 0] [(n,[.bnil T,a1])]) vs w->
  Calls P f vs w (λen w' => ∃v,en=.returned v/\ ∃g' Y,zdt g (zak [A.ptr n 0].length [A.ptr n 0] [(n,[.bnil T,a1])]) w (.tup []) [(n,[.selfp,a1])] v w' g' Y):=by
 refine⟨hb,λg w vs hsz hs=>?_⟩
 have hv:=zmj hs hn;have hvs:=zts hsz;rw[hv]at hvs;obtain⟨arr,el,h1,h2,h3⟩:=zmi hs hn;obtain⟨_,_,hv0,b',o',he,htag⟩:=h3 0 _ rfl;cases he;obtain⟨arr',fz,ht⟩:=htag hn;rw[h1]at ht;obtain rfl:el=T:=by cases ht;rfl
 have hcell:w.cell? ⟨g.β n,0,none⟩=some (.pointer none):=by
  have hk:0<arr.size:=by rw[h2];exact Nat.zero_lt_succ _
  rw[<-hv0];simp[World.cell?,h1,hk,Array.getD_eq_getD_getElem?]
 rw[hvs]at hs ⊢;refine(hc (g.β n) w hcell (by simp[World.shape?,h1,h2]) (by simp[World.frozen?,h1])).mono ?_
 rintro en w' ⟨rfl,rfl⟩;refine⟨_,rfl,?_⟩;obtain⟨g1,s1,hgc,hgβ,hgγ,hgS⟩:=hs.pokeBox (b:=n) (o:=0) (cs:=[.bnil el,a1]) (a:=.dead) (u:=.pointer (some ⟨g.β n,0,none⟩)) (Y:=λ_=>False) (by simp[zak,Env.box,za5]) hn (by simp) rfl rfl trivial (zcu _ _ _)
 have s2:Sim g1 (zba [(n,[.dead,a1])]) #[] (w.setCell ⟨g.β n,0,none⟩ (.pointer (some ⟨g.β n,0,none⟩))):=by
  refine s1.ret (λb cs hcs=>?_)
  obtain⟨rfl,rfl⟩:=zjy (n:=n) (cs:=[.dead,a1]) (b:=b) (cs':=cs) hcs;rw[zh7];simp[zak,Env.box,za5]
 have s3:Sim g1 (zba [(n,[.selfp,a1])]) #[] (w.setCell ⟨g.β n,0,none⟩ (.pointer (some ⟨g.β n,0,none⟩))):=by
  refine s2.reBox1 (g':=g1) hn rfl rfl rfl (λ_ _ h=>h) (λarr2 el2 k1 k2 k3 o a' ha' =>?_)
  rw[hgβ]at k1 ⊢
  cases o with
  |zero=>
   simp only[List.getElem?_cons_zero,Option.some.injEq]at ha';subst ha';have hq:=zh5 w (g.β n) 0 (.pointer (some ⟨g.β n,0,none⟩)) h1;rw[hq]at k1;simp only[Option.some.injEq,Obj.cells.injEq]at k1;refine⟨rfl,?_⟩;show arr2.getD 0 undef=_;rw[<-k1.1,getD_setIf arr 0 0 _ (by rw[h2];exact Nat.zero_lt_succ _),if_pos rfl]
  |succ o=>
   have ha2:[A.dead,a1][o+1]? =some a':=by simpa using ha'
   have hp:a'.portable=true:=by
    refine(h3 (o+1) a' ?_).1;simpa using ha'
   refine⟨hp,?_⟩;have hk:=RepA.cellV hp hn (λ_ _ h=>h) (k3 (o+1) a' ha2).2
   rw[hgβ]at hk;exact hk
 refine⟨g1,_,zpg s3 hgc hgβ hgγ (λs x hx=>(hgS s x hx).elim id (λh=>h.elim)) rfl rfl rfl (by rw[zcb];exact Nat.le_refl _) (λx hx hm=>?_) ⟨#[],rfl,rfl,λk a ha=>by simp at ha⟩⟩
 refine zca _ _ _ _ (λe=>hm (.inr ⟨n,by simp[zak,Env.box,za5],hn,e.symm⟩))
theorem z0p[Base]{f:FuncId}(hb:zb0 P f){n:Nat}{a1:A}(hn:n<zab)
 (hc:∀(b:Nat) (w:World),w.cell? ⟨b,0,none⟩=some (.pointer (some ⟨b,0,none⟩))->
  Calls P f #[.pointer (some ⟨b,0,none⟩)] w λe w' =>e=.returned (.tuple #[])/\w' =w):
 zb0 P f/\ ∀(g:G) (w:World) (vs:Array Value),vs.size=[A.ptr n 0].length->Sim g (zak [A.ptr n 0].length [A.ptr n 0] [(n,[.selfp,a1])]) vs w->
  Calls P f vs w (λen w' => ∃v,en=.returned v/\ ∃g' Y,zdt g (zak [A.ptr n 0].length [A.ptr n 0] [(n,[.selfp,a1])]) w (.tup []) [(n,[.selfp,a1])] v w' g' Y):=by
 refine⟨hb,λg w vs hsz hs=>?_⟩
 have hv:=zmj hs hn;have hvs:=zts hsz;rw[hv]at hvs;obtain⟨arr,el,h1,h2,h3⟩:=zmi hs hn;obtain⟨_,_,b',o',he,hv0⟩:=h3 0 _ rfl;cases he
 have hcell:w.cell? ⟨g.β n,0,none⟩=some (.pointer (some ⟨g.β n,0,none⟩)):=by
  have hk:0<arr.size:=by rw[h2];exact Nat.zero_lt_succ _
  rw[<-hv0 hn];simp[World.cell?,h1,hk,Array.getD_eq_getD_getElem?]
 rw[hvs]at hs ⊢;refine(hc (g.β n) w hcell).mono ?_;rintro en w' ⟨rfl,rfl⟩;refine⟨_,rfl,g,_,zpg (hs.ret (λb cs h=>h)) rfl rfl rfl (λ_ _ h=>h) rfl rfl rfl (Nat.le_refl _) (λ_ _ _=>rfl) ⟨#[],rfl,rfl,λk a ha=>by simp at ha⟩⟩
theorem zm6[Base]{f:FuncId}{el:TypeId}(hb:zb0 P f){n:Nat}{a0:A}{s:ByteArray}(hn:n<zab)
 (hc:∀(b:Nat) (p v:Value) (tag:TypeId) (w:World),w.heap[b]? =some (.cells #[p,v] tag (0,0))->w.ownsRow 0 el 1 v s.size (s.data.toList.map λb=>.int .u8 b.toNat)->
  Calls P f #[.pointer (some ⟨b,0,none⟩)] w λe w' =>e=.returned (.string s)/\Go.Proofs.ButOne v.ownBlock w w'):
 zb0 P f/\ ∀(g:G) (w:World) (vs:Array Value),vs.size=[A.ptr n 0].length->Sim g (zak [A.ptr n 0].length [A.ptr n 0] [(n,[a0,.own (.bs el s)])]) vs w->
  Calls P f vs w (λen w' => ∃v,en=.returned v/\ ∃g' Y,zdt g (zak [A.ptr n 0].length [A.ptr n 0] [(n,[a0,.own (.bs el s)])]) w (.one (.ro (.str s))) [(n,[a0,.dead])] v w' g' Y):=by
 refine⟨hb,λg w vs hsz hs=>?_⟩
 have hv:=zmj hs hn;have hvs:=zts hsz;rw[hv]at hvs;obtain⟨arr,tag,h1,h2,h3⟩:=zmi hs hn;obtain⟨_,_,hown⟩:=h3 1 _ rfl;have hown':OwnC w (.bs el s) (arr.getD 1 undef) (g.S (.cell n 1)):=hown
 have harr:arr= #[arr.getD 0 undef,arr.getD 1 undef]:=by
  have h2':arr.size=2:=h2;refine Array.ext (by simpa using h2') (λk hk hk' =>?_)
  have:k=0∨k=1:=by omega
  rcases this with rfl|rfl<;>simp[Array.getD_eq_getD_getElem?,hk]
 rw[harr]at h1;generalize hv1:arr.getD 1 undef=v1 at h1 hown'
 obtain⟨hrow,hmine⟩:w.ownsRow 0 el 1 v1 s.size (s.data.toList.map λb=>.int .u8 b.toNat)/\ ∀x,v1.ownBlock=some x->g.S (.cell n 1) x:=by
  cases hown' with
  |flat hf _=>simp[D.flat]at hf
  |bs k1 k2=>exact⟨k1,k2⟩
 rw[hvs]at hs ⊢;refine(hc (g.β n) _ v1 tag w h1 hrow).mono ?_;rintro en w' ⟨rfl,hbut⟩;refine⟨_,rfl,?_⟩;have s1:Sim g (zba [(n,[a0,.own (.bs el s)])]) #[] w:=hs.ret (λb cs h=>h)
 have s2:Sim (g.setSlot (.cell n 1) (λ_=>False)) (zba [(n,[a0,.dead])]) #[] w:=by
  refine s1.reBox1 (g':=g.setSlot (.cell n 1) (λ_=>False)) hn rfl rfl rfl (λt x hx=>?_) (λarr2 el2 k1 k2 k3 o a' ha' =>?_)
  ·by_cases e:t=.cell n 1
   ·subst e;rw[zal]at hx;exact hx.elim
   ·rw[zae g _ e]at hx;exact hx
  ·cases o with
   |zero=>
    simp only[List.getElem?_cons_zero,Option.some.injEq]at ha';subst ha';have hp:=(h3 0 _ rfl).1;refine⟨hp,?_⟩;rw[zae g _ (by simp)]
    exact RepA.cellV hp hn (λ_ _ h=>h) (k3 0 _ rfl).2
   |succ o=>
    cases o with
    |zero=>
     simp only[List.getElem?_cons_succ,List.getElem?_cons_zero,Option.some.injEq]at ha';subst ha';exact⟨rfl,trivial⟩
    |succ o=>simp at ha'
 have hno:∀x,v1.ownBlock=some x-> ¬Mine (g.setSlot (.cell n 1) (λ_=>False)) (zba [(n,[a0,.dead])]) x/\ ∀o v,g.c x o≠some v:=by
  intro x hx;have hS:=hmine x hx;refine⟨?_,λo v hv=>(hs.cdis x o v hv).1 _ hS⟩
  rintro(⟨t,ht⟩|⟨b,hb,hl,he⟩)
  ·by_cases e:t=.cell n 1
   ·subst e;rw[zal]at ht;exact ht
   ·rw[zae g _ e]at ht;exact e (hs.sdis _ _ _ ht hS)
  ·have:=zcc.1 hb;subst this;exact hs.sbox _ b x hS (by simp[zak,Env.box,za5]) hl he
 have s3:Sim (g.setSlot (.cell n 1) (λ_=>False)) (zba [(n,[a0,.dead])]) #[] w':=by
  refine s2.world hbut.size (λx hx hm=>hbut.block x hx (λe=>?_))
  rcases hm with hm|⟨o,v,hv⟩
  ·exact(hno x e).1 hm
  ·exact(hno x e).2 o v hv
 refine⟨_,_,zpg s3 rfl rfl rfl (λt x hx=>?_) hbut.os hbut.tape hbut.output hbut.size (λx hx hm=>hbut.block x hx (λe=>hm (.inl ⟨_,hmine x e⟩))) (RO.str s)⟩
 by_cases e:t=.cell n 1
 ·subst e;rw[zal]at hx;exact hx.elim
 ·rw[zae g _ e]at hx;exact hx
end Go.Qz
