import Derived.Test.YtddfkpkieamlpaaGreatDoorQn1
import Derived.Below
import Derived.Calls
namespace Go.Qz
open Go.RowKit (Below)
variable{P:Program}
abbrev zb0(P:Program)(f:FuncId):Prop:=∃fn,P.funcs[f]? =some fn/\fn.body.isSome=true/\fn.name≠ "runtime.NumGoroutine"
theorem zmg[Base]{g:G}{as:List A}{bx:zas}{vs:Array Value}{w:World}(hs:Sim g (zak as.length as bx) vs w){k:Nat}{a:A}(ha:as[k]? =some a):
 RepA g (zak as.length as bx) vs w (.tmp k 0) a (vs.getD k undef):=by
 have ht:=hs.tv k;have ht':RepV g (zak as.length as bx) vs w k (match as[k]? with|some a=>.one a|none=>.undef) (vs.getD k undef):=ht
 rw[ha]at ht';exact ht'
def valD:D->Option Value
 | .int k n=>some (.int k n)
 | .bool b=>some (.bool b)
 | .str s=>some (.string s)
 | .nilp=>some (.pointer none)
 | .nilf=>some .nilFunc
 | .nili=>some .nilIface
 |_=>none
def zw0:List D->Option (List Value)
 | []=>some []
 |d::r=>match valD d with
  |some v=>match zw0 r with
   |some vs=>some (v::vs)
   |none=>none
  |none=>none
theorem z5t{c:Mem}{d:D}{v v':Value}(h:valD d=some v)(hr:RO c d v'):v' =v:=by
 cases hr<;>simp[valD]at h<;>exact h
theorem z5u{c:Mem}{d:D}{v:Value}(h:valD d=some v):RO c d v:=by
 cases d<;>simp[valD]at h<;>subst h
 ·exact .int _ _
 ·exact .bool _
 ·exact .str _
 ·exact .nilp
 ·exact .nilf
 ·exact .nili
theorem zmh:∀{ds:List D} {vs:List Value},zw0 ds=some vs->vs.length=ds.length/\ ∀(k:Nat) (d:D),ds[k]? =some d-> ∃v,vs[k]? =some v/\valD d=some v
 | [],vs,h=>by
   simp only[zw0,Option.some.injEq]at h;subst h;exact⟨rfl,λk d hd=>by simp at hd⟩
 |d::r,vs,h=>by
  simp only[zw0]at h;split at h
  ·rename_i v hv;split at h
   ·rename_i vs' hvs;obtain rfl:=Option.some.inj h;obtain⟨h1,h2⟩:=zmh hvs;refine⟨by simp[h1],λk d' hd=>?_⟩
    cases k with
    |zero=>
     simp only[List.getElem?_cons_zero,Option.some.injEq]at hd;subst hd;exact⟨v,rfl,hv⟩
    |succ k=>exact h2 k d' hd
   ·cases h
  ·cases h
theorem zck[Base]{g:G}{ds:List D}{bx:zas}{vs:Array Value}{w:World}{us:List Value}(hs:Sim g (zak (ds.map A.ro).length (ds.map A.ro) bx) vs w)(hsz:vs.size=(ds.map A.ro).length)(hu:zw0 ds=some us):vs=us.toArray:=by
 obtain⟨h1,h2⟩:=zmh hu;have hsz':vs.size=ds.length:=by simpa using hsz
 refine Array.ext (by simp[h1,hsz']) (λk hk hk' =>?_)
 have hd:ds[k]? =some ds[k]:=List.getElem?_eq_getElem (by omega)
 obtain⟨u,hu1,hu2⟩:=h2 k _ hd;have hr:RO g.c ds[k] (vs.getD k undef):=zmg hs (a:=.ro ds[k]) (by rw[List.getElem?_map,hd];rfl)
 have e1:=z5t hu2 hr;have e2:vs.getD k undef=vs[k]:=by simp[Array.getD_eq_getD_getElem?,hk]
 rw[e2]at e1;rw[e1];have:us.toArray[k]? =some u:=by simpa using hu1
 rw[Array.getElem?_eq_getElem hk']at this;exact(Option.some.inj this).symm
theorem z7w{c:Mem}{w:World}(h:c.le (zbc w)){x o:Nat}{v:Value}(hc:c x o=some v)(hx:w.heap.size<=x):False:=by
 have h2:=h x o v hc;unfold zbc World.cell? at h2;have:w.heap[x]? =none:=Array.getElem?_eq_none hx;simp[this]at h2
theorem zpe[Base]{g:G}{w w':World}{as:List A}{vs:Array Value}{r:V}{v:Value}{Y:Nat->Blk}(hs:Sim g (zak as.length as []) vs w)(hb:Below w.heap.size w w')
 (hr:HoldV g (zba []) #[] w' Y r v) (hY:∀k x,Y k x->w.heap.size<=x/\x<w'.heap.size) (hone:∀k k' x,Y k x->Y k' x->k=k'):zdt g (zak as.length as []) w r [] v w' g Y where
 sim:=(hs.grow hb.size hb.block).ret (λb cs h=>by cases h)
 hold:=hr
 free:=⟨hone,λk s x hx hS=>Nat.lt_irrefl _ (Nat.lt_of_lt_of_le (hs.slt s x hS) (hY k x hx).1),λk x b _ hb=>(by cases hb),λk x hx=>(hY k x hx).2,λk x o v hx hc=>z7w hs.cmem hc (hY k x hx).1⟩
 next:={os:=hb.os,tape:=hb.tape,output:=hb.output,size:=hb.size,old:=λx hx _=>hb.block x hx,mine:=λx hx=>.inl (hx.imp id (λ⟨b,hb,_⟩=>by cases hb)),c:=λ_ _ _ h=>h,cnew:=λ_ _ _ h=>.inl h,lent:=λ_ _=>⟨rfl,rfl⟩}
 mine:=λk x hx=>.inr (hY k x hx).1
theorem zfk[Base]{g:G}{w w':World}{as:List A}{vs:Array Value}{r:V}{v:Value}(hs:Sim g (zak as.length as []) vs w)(hb:Below w.heap.size w w')
 (hr:HoldV g (zba []) #[] w' (λ_ _=>False) r v):zdt g (zak as.length as []) w r [] v w' g (λ_ _=>False):=
 zpe hs hb hr (λ_ _ h=>h.elim) (λ_ _ _ h=>h.elim)
theorem z3m[Base]{ds:List D}{us:List Value}(h:zw0 ds=some us)(g:G)(w:World):HoldV g (zba []) #[] w (λ_ _=>False) (.tup (ds.map .ro)) (.tuple us.toArray):=by
 obtain⟨h1,h2⟩:=zmh h;refine⟨us.toArray,rfl,by simp[h1],λk a ha=>?_⟩
 rw[List.getElem?_map]at ha
 cases hd:ds[k]? with
 |none=>rw[hd]at ha;cases ha
 |some d=>
  rw[hd]at ha;obtain rfl:=Option.some.inj ha;obtain⟨u,hu1,hu2⟩:=h2 k d hd;have:us.toArray.getD k undef=u:=by simp[hu1]
  rw[this];exact z5u hu2
theorem zjy{n:Nat}{cs:List A}{b:Nat}{cs':List A}(h:(zba [(n,cs)]).box b=some cs'):b=n/\cs' =cs:=by
 have h':(if b=n then some cs else none)=some cs':=by
  simpa [zba,Env.box,za5]using h
 split at h'
 ·rename_i e;exact⟨e,(Option.some.inj h').symm⟩
 ·cases h'
theorem zcc{n:Nat}{cs:List A}{b:Nat}:((zba [(n,cs)]).box b).isSome=true↔b=n:=by
 constructor
 ·intro h;obtain⟨cs',h'⟩:=Option.isSome_iff_exists.1 h;exact(zjy h').1
 ·rintro rfl;simp[zba,Env.box,za5]
theorem Sim.reBox1[Base]{g g':G}{w:World}{n:Nat}{cs cs':List A}(h:Sim g (zba [(n,cs)]) #[] w)(hlt:n<zab)(hl:cs'.length=cs.length)(hgc:g'.c=g.c)(hgβ:g'.β=g.β)(hS:∀s x,g'.S s x->g.S s x)
 (hc:∀arr el,w.heap[g.β n]? =some (.cells arr el (0,0))->arr.size=cs.length->(∀o a,cs[o]? =some a->(arr.getD o undef).oneCell' =true/\RepA g (zba [(n,cs)]) #[] w (.cell n o) a (arr.getD o undef))-> ∀o a',cs'[o]? =some a' ->a'.portable=true/\CellV g.c (g'.S (.cell n o)) w (g.β n) a' (arr.getD o undef)):
 Sim g' (zba [(n,cs')]) #[] w where
 size:=Nat.zero_le _
 tv:=h.tv
 bx:=λb cs2 hcs=>by
  obtain⟨rfl,rfl⟩:=zjy hcs;have hb:=h.bx b cs (by simp[zba,Env.box,za5])
  unfold RepBox at hb ⊢;rw[if_neg (by omega)]at hb ⊢
  obtain⟨arr,el,h1,h2,h3⟩:=hb;refine⟨arr,el,by rw[hgβ];exact h1,by omega,λo a ha=>?_⟩
  obtain⟨p1,p2⟩:=hc arr el h1 h2 (λo a ha=>(h3 o a ha).2) o a ha
  have hlt':o<cs.length:=by
   have:=(List.getElem?_eq_some_iff.1 ha).1;omega
  refine⟨p1,(h3 o _ (List.getElem?_eq_getElem hlt')).2.1,?_⟩;refine CellV.rep (λx hx=>hx) ?_
  rw[hgc,hgβ];exact p2
 binj:=λb b' hb hb' _ _ _=>by rw[zcc.1 hb,zcc.1 hb']
 sdis:=λs s' x hx hx' =>h.sdis s s' x (hS _ _ hx) (hS _ _ hx')
 sbox:=λs b x hx hb hl=>by
  rw[hgβ];exact h.sbox s b x (hS _ _ hx) (zcc.2 (zcc.1 hb)) hl
 slt:=λs x hx=>h.slt s x (hS _ _ hx)
 cmem:=by rw[hgc];exact h.cmem
 base:=by rw[hgc];exact h.base
 fix:=h.fix
 cdis:=λb o v hv=>by
  rw[hgc]at hv;refine⟨λs hx=>(h.cdis b o v hv).1 s (hS _ _ hx),λid hid hl=>?_⟩
  rw[hgβ];exact(h.cdis b o v hv).2 id (zcc.2 (zcc.1 hid)) hl
end Go.Qz
