import Derived.Test.YtddfkpkieamlpaaGreatDoorQc0
import Derived.Laws.AppendOwn
import Derived.Laws.OwnMore
import Derived.Calls
namespace Go.Qz
abbrev Mem:=Nat->Nat->Option Value
abbrev Blk:=Nat->Prop
def Mem.le(c c':Mem):Prop:=∀b o v,c b o=some v->c' b o=some v
def zzc:Mem:=λ_ _=>none
inductive RO(c:Mem):D->Value->Prop
 |int (k:IntKind) (n:Int):RO c (.int k n) (.int k n)
 |bool (b:Bool):RO c (.bool b) (.bool b)
 |str (s:ByteArray):RO c (.str s) (.string s)
 |nilp:RO c .nilp (.pointer none)
 |nilf:RO c .nilf .nilFunc
 |nili:RO c .nili .nilIface
 |iface {t:TypeId} {d:D} {v:Value}:RO c d v->RO c (.iface t d) (.iface t v)
 |hole {v:Value}:v.oneCell' =true->RO c .hole v
 |snil {cap:Nat}:RO c .snil (.slice none 0 cap)
 |sne {a:Addr} {cap:Nat}:RO c .sne (.slice (some a) 0 cap)
 |bs {u:TypeId} {s:ByteArray} {v:Value}:v.oneCell' =true->RO c (.bs u s) v
 |seq {f:FuncId} {s p:ByteArray} {v:Value}:v.oneCell' =true->RO c (.seq f s p) v
 |clo {f:FuncId} {ds:List D} {vs:Array Value}:vs.size=ds.length->(∀m d,ds[m]? =some d->RO c d (vs.getD m undef))->RO c (.clo f ds) (.func (.func f) #[] vs)
 |sl0 {z:Nat} {a:Option Addr} {cap:Nat}:RO c (.sl z []) (.slice a 0 cap)
 |sl {z:Nat} {xs:List D} {b off cap:Nat} (u:Nat->Value):xs.length<=cap->
  (∀x∈xs,x.cells.length=z)->(∀m,m<xs.length*z->c b (off+m)=some (u m)/\(u m).oneCell' =true)->
  (∀m d,(xs.flatMap D.cells)[m]? =some d->RO c d (u m))->RO c (.sl z xs) (.slice (some ⟨b,off,none⟩) xs.length cap)
 |agg {ds:List D} {vs:Array Value}:vs.size=ds.length->(∀m,m<ds.length->(vs.getD m undef).oneCell' =true)->
  (∀m d,ds[m]? =some d->RO c d (vs.getD m undef))->RO c (.agg ds) (.agg vs)
def seqV(f:FuncId)(bp bs bn:Nat):Value:=.func (.func f) #[] #[.pointer (some ⟨bp,0,none⟩),.pointer (some ⟨bs,0,none⟩),.pointer (some ⟨bn,0,none⟩)]
structure SeqCells(w:World)(s p:ByteArray)(bp bs bn:Nat):Prop where
 p:∃e,w.heap[bp]? =some (.cells #[.string p] e (0,0))
 s:∃e,w.heap[bs]? =some (.cells #[.string s] e (0,0))
 n:∃e,w.heap[bn]? =some (.cells #[.int .i64 0] e (0,0))
 sp:bs≠bp
 sn:bs≠bn
theorem SeqCells.frame{w w':World}{s p:ByteArray}{bp bs bn:Nat}(h:SeqCells w s p bp bs bn)(h1:w'.heap[bp]? =w.heap[bp]?)(h2:w'.heap[bs]? =w.heap[bs]?)(h3:w'.heap[bn]? =w.heap[bn]?):SeqCells w' s p bp bs bn:=
 ⟨by rw[h1];exact h.p,by rw[h2];exact h.s,by rw[h3];exact h.n,h.sp,h.sn⟩
def RowAt(w:World)(b:Nat)(cur:Array Value)(e:TypeId):Prop:=∃fz:Nat×Nat,w.heap[b]? =some (.cells cur e fz)/\(fz=(0,0)∨cur.size<=fz.1)
theorem RowAt.of{w:World}{b:Nat}{cur:Array Value}{e:TypeId}(h:w.heap[b]? =some (.cells cur e (0,0))):RowAt w b cur e:=⟨_,h,.inl rfl⟩
theorem RowAt.frame{w w':World}{b:Nat}{cur:Array Value}{e:TypeId}(h:RowAt w b cur e)(hb:w'.heap[b]? =w.heap[b]?):RowAt w' b cur e:=by
 obtain⟨fz,h1,h2⟩:=h;exact⟨fz,hb.trans h1,h2⟩
theorem RowAt.cell{w:World}{b:Nat}{cur:Array Value}{e:TypeId}(h:RowAt w b cur e){m:Nat}(hm:m<cur.size):w.cell? ⟨b,m,none⟩=some (cur.getD m undef):=by
 obtain⟨fz,h1,_⟩:=h;simp[World.cell?,h1,hm]
theorem RowAt.live{w:World}{b:Nat}{cur:Array Value}{e:TypeId}(h:RowAt w b cur e){m:Nat}(hm:m<cur.size):w.frozen? ⟨b,m,none⟩=false:=by
 obtain⟨fz,h1,rfl|h2⟩:=h
 ·simp[World.frozen?,h1]
 ·simp[World.frozen?,h1];omega
theorem RowAt.set{w:World}{b:Nat}{cur:Array Value}{e:TypeId}(h:RowAt w b cur e)(m:Nat)(u:Value):RowAt (w.setCell ⟨b,m,none⟩ u) b (cur.setIfInBounds m u) e:=by
 obtain⟨fz,h1,h2⟩:=h;refine⟨fz,by simp[World.setCell,Array.getElem?_modify,h1],?_⟩
 simpa using h2
inductive OwnC(w:World):D->Value->Blk->Prop
 |flat {d:D} {v:Value} {T:Blk}:d.flat=true->RO zzc d v->OwnC w d v T
 |hole {v:Value} {T:Blk}:v.oneCell' =true->OwnC w .hole v T
 |nil {z:Nat} {T:Blk}:OwnC w (.sl z []) (.slice none 0 0) T
 |row {z:Nat} {xs:List D} {b cap:Nat} {e:TypeId} {cur:Array Value} {T:Blk} (U:Nat->Blk):
  RowAt w b cur e->cur.size=cap*z->xs.length<=cap->cap<=maxLen->0<z->T b->
  (∀m x,U m x->T x/\x≠b)->(∀m m' x,U m x->U m' x->m=m')->(∀x∈xs,x.cells.length=z)->
  (∀m,m<xs.length*z->(cur.getD m undef).oneCell' =true)->
  (∀m d,(xs.flatMap D.cells)[m]? =some d->OwnC w d (cur.getD m undef) (U m))->OwnC w (.sl z xs) (.slice (some ⟨b,0,none⟩) xs.length cap) T
 |bs {u:TypeId} {s:ByteArray} {v:Value} {T:Blk}:w.ownsRow 0 u 1 v s.size (s.data.toList.map λb=>.int .u8 b.toNat)->(∀x,v.ownBlock=some x->T x)->OwnC w (.bs u s) v T
 |seq {f:FuncId} {s p:ByteArray} {bp bs bn:Nat} {T:Blk}:SeqCells w s p bp bs bn->(T bp/\T bs/\T bn)->OwnC w (.seq f s p) (seqV f bp bs bn) T
 |clo {f:FuncId} {ds:List D} {vs:Array Value} {T:Blk} (U:Nat->Blk):vs.size=ds.length->
  (∀m x,U m x->T x)->(∀m m' x,U m x->U m' x->m=m')->(∀m d,ds[m]? =some d->OwnC w d (vs.getD m undef) (U m))->OwnC w (.clo f ds) (.func (.func f) #[] vs) T
 |agg {ds:List D} {vs:Array Value} {T:Blk} (U:Nat->Blk):vs.size=ds.length->
  (∀m x,U m x->T x)->(∀m m' x,U m x->U m' x->m=m')->(∀m,m<ds.length->(vs.getD m undef).oneCell' =true)->
  (∀m d,ds[m]? =some d->OwnC w d (vs.getD m undef) (U m))->OwnC w (.agg ds) (.agg vs) T
theorem RO.mono{c c':Mem}(h:c.le c'){d:D}{v:Value}(r:RO c d v):RO c' d v:=by
 induction r with
 |int k n=>exact .int k n
 |bool b=>exact .bool b
 |str s=>exact .str s
 |nilp=>exact .nilp
 |nilf=>exact .nilf
 |nili=>exact .nili
 |iface _ ih=>exact .iface ih
 |hole hv=>exact .hole hv
 |snil=>exact .snil
 |sne=>exact .sne
 |bs hv=>exact .bs hv
 |seq hv=>exact .seq hv
 |clo h1 _ ih=>exact .clo h1 ih
 |sl0=>exact .sl0
 |sl u hc h1 h2 _ ih=>exact .sl u hc h1 (λm hm=>⟨h _ _ _ (h2 m hm).1,(h2 m hm).2⟩) ih
 |agg h1 h2 _ ih=>exact .agg h1 h2 ih
theorem OwnC.mono{w:World}{d:D}{v:Value}{T T':Blk}(h:∀x,T x->T' x)(r:OwnC w d v T):OwnC w d v T':=by
 induction r generalizing T' with
 |flat h1 h2=>exact .flat h1 h2
 |hole hv=>exact .hole hv
 |nil=>exact .nil
 |bs h1 h2=>exact .bs h1 (λx hx=>h _ (h2 x hx))
 |seq h1 h2=>exact .seq h1 ⟨h _ h2.1,h _ h2.2.1,h _ h2.2.2⟩
 |clo U h1 h2 h3 h4 _=>exact .clo U h1 (λm x hx=>h _ (h2 m x hx)) h3 h4
 |row U h1 h2 h3 h4 h5 h6 h7 h8 h9 h10 h11 _=>exact .row U h1 h2 h3 h4 h5 (h _ h6) (λm x hx=>⟨h _ (h7 m x hx).1,(h7 m x hx).2⟩) h8 h9 h10 h11
 |agg U h1 h2 h3 h4 h5 _=>exact .agg U h1 (λm x hx=>h _ (h2 m x hx)) h3 h4 h5
theorem zh4{w:World}{u:TypeId}{v:Value}{n:Nat}{xs:List Value}(h:w.ownsRow 0 u 1 v n xs):v.oneCell' =true:=by
 rcases h.2 with⟨rfl,_⟩|⟨g,cap,cur,rfl,_⟩<;>rfl
theorem zow{w w':World}{u:TypeId}{v:Value}{n:Nat}{xs:List Value}(h:w.ownsRow 0 u 1 v n xs)(hb:∀x,v.ownBlock=some x->w'.heap[x]? =w.heap[x]?):w'.ownsRow 0 u 1 v n xs:=by
 obtain⟨h1,h2⟩:=h;refine⟨h1,h2.imp id ?_⟩;rintro⟨g,cap,cur,rfl,p1,p2,p3⟩;exact⟨g,cap,cur,rfl,p1,(hb g rfl).trans p2,p3⟩
theorem OwnC.frame{w w':World}{d:D}{v:Value}{T:Blk}(r:OwnC w d v T)(h:∀x,T x->w'.heap[x]? =w.heap[x]?):OwnC w' d v T:=by
 induction r with
 |flat h1 h2=>exact .flat h1 h2
 |hole hv=>exact .hole hv
 |nil=>exact .nil
 |bs h1 h2=>exact .bs (zow h1 (λx hx=>h x (h2 x hx))) h2
 |seq h1 h2=>exact .seq (h1.frame (h _ h2.1) (h _ h2.2.1) (h _ h2.2.2)) h2
 |clo U h1 h2 h3 h4 ih=>exact .clo U h1 h2 h3 (λm d hd=>ih m d hd (λx hx=>h x (h2 m x hx)))
 |row U h1 h2 h3 h4 h5 h6 h7 h8 h9 h10 h11 ih=>
  exact .row U (h1.frame (h _ h6)) h2 h3 h4 h5 h6 h7 h8 h9 h10 (λm d hd=>ih m d hd (λx hx=>h x (h7 m x hx).1))
 |agg U h1 h2 h3 h4 h5 ih=>exact .agg U h1 h2 h3 h4 (λm d hd=>ih m d hd (λx hx=>h x (h2 m x hx)))
theorem zp5{xs:List D}{z k:Nat}(_:∀x∈xs,x.cells.length=z)(_:k<=xs.length){m:Nat}{d:D}(h:((xs.take k).flatMap D.cells)[m]? =some d):(xs.flatMap D.cells)[m]? =some d:=by
 have e:xs=xs.take k++xs.drop k:=(List.take_append_drop k xs).symm;rw[e,List.flatMap_append,List.getElem?_append_left (List.getElem?_eq_some_iff.1 h).1];exact h
theorem OwnC.take{w:World}{z k n cap:Nat}{xs:List D}{a:Option Addr}{T:Blk}(h:OwnC w (.sl z xs) (.slice a n cap) T)(hk:k<=xs.length):OwnC w (.sl z (xs.take k)) (.slice a k cap) T:=by
 generalize hv:Value.slice a n cap=v at h
 cases h with
 |flat hf _=>simp[D.flat]at hf
 |nil=>
  cases hv;have:k=0:=by simpa using hk
  subst this;exact .nil
 | @row _ _ b cap' e cur _ U h1 h2 h3 h4 h5 h6 h7 h8 h9 h10 h11=>
   cases hv;have hlen:(xs.take k).length=k:=by rw[List.length_take];omega
   have:=@OwnC.row w z (xs.take k) b cap e cur T U h1 h2 (by omega) h4 h5 h6 h7 h8 (λx hx=>h9 x (List.mem_of_mem_take hx)) (λm hm=>h10 m (Nat.lt_of_lt_of_le hm (Nat.mul_le_mul_right _ (by omega)))) (λm d hd=>h11 m d (zp5 h9 hk hd))
   rw[hlen]at this;exact this
theorem zgl{l:List D}(h:flats l=true){d:D}(hd:d∈l):d.flat=true:=by
 induction l with
 |nil=>cases hd
 |cons a r ih=>
  simp only[flats,Bool.and_eq_true]at h
  cases hd with
  |head=>exact h.1
  |tail _ hm=>exact ih h.2 hm
theorem RO.flat{c:Mem}{d:D}{v:Value}(r:RO c d v)(h:d.flat=true):RO zzc d v:=by
 induction r with
 |int k n=>exact .int k n
 |bool b=>exact .bool b
 |str s=>exact .str s
 |nilp=>exact .nilp
 |nilf=>exact .nilf
 |nili=>exact .nili
 |iface _ ih=>exact .iface (ih (by simpa [D.flat]using h))
 |hole _=>simp[D.flat]at h
 |snil=>exact .snil
 |sne=>exact .sne
 |bs _=>simp[D.flat]at h
 |seq _=>simp[D.flat]at h
 |clo h1 _ ih=>exact .clo h1 (λm d hd=>ih m d hd (zgl (by simpa [D.flat]using h) (List.mem_of_getElem? hd)))
 |sl0=>simp[D.flat]at h
 |sl u hc h1 h2 _ _=>simp[D.flat]at h
 |agg h1 h2 _ ih=>exact .agg h1 h2 (λm d hd=>ih m d hd (zgl (by simpa [D.flat]using h) (List.mem_of_getElem? hd)))
theorem zox(c:Mem):Mem.le zzc c:=λ_ _ _ h=>by cases h
theorem OwnC.toRO{w:World}{c:Mem}{d:D}{v:Value}{T:Blk}(r:OwnC w d v T)(h:∀b o u,T b->w.cell? ⟨b,o,none⟩=some u->c b o=some u):RO c d v:=by
 induction r with
 |flat _ h2=>exact h2.mono (zox c)
 |hole hv=>exact .hole hv
 |nil=>exact .sl0
 |bs h1 _=>exact .bs (zh4 h1)
 |seq _ _=>exact .seq rfl
 |clo U h1 h2 h3 h4 ih=>exact .clo h1 (λm d hd=>ih m d hd (λb' o u hb=>h b' o u (h2 m b' hb)))
 | @row z xs b cap e cur T U h1 h2 h3 h4 h5 h6 h7 h8 h9 h10 h11 ih=>
   refine .sl (λm=>cur.getD m undef) h3 h9 (λm hm=>⟨?_,h10 m hm⟩) (λm d hd=>ih m d hd (λb' o u hb=>h b' o u (h7 m b' hb).1))
   have hlt:m<cur.size:=by rw[h2];exact Nat.lt_of_lt_of_le hm (Nat.mul_le_mul_right _ h3)
   rw[Nat.zero_add];exact h b m _ h6 (h1.cell hlt)
 |agg U h1 h2 h3 h4 h5 ih=>exact .agg h1 h4 (λm d hd=>ih m d hd (λb' o u hb=>h b' o u (h2 m b' hb)))
end Go.Qz
namespace Go.Qz
theorem zat{xs:List D}{z:Nat}(hz:∀x∈xs,x.cells.length=z):(xs.flatMap D.cells).length=xs.length*z:=by
 induction xs with
 |nil=>simp
 |cons a r ih=>
  rw[List.flatMap_cons,List.length_append,ih (λx hx=>hz x (List.mem_cons_of_mem _ hx)),hz a List.mem_cons_self,List.length_cons,Nat.add_mul,Nat.one_mul,Nat.add_comm]
theorem zee{z:Nat}{x d:D}:∀{xs:List D} {i o:Nat},(∀x∈xs,x.cells.length=z)->xs[i]? =some x->x.cells[o]? =some d->(xs.flatMap D.cells)[i*z+o]? =some d
 | [],i,o,_,hx,_=>by simp at hx
 |a::r,0,o,hz,hx,ho=>by
  simp only[List.getElem?_cons_zero,Option.some.injEq]at hx;subst hx;have:=(List.getElem?_eq_some_iff.1 ho).1;rw[List.flatMap_cons,Nat.zero_mul,Nat.zero_add,List.getElem?_append_left this];exact ho
 |a::r,i+1,o,hz,hx,ho=>by
  simp only[List.getElem?_cons_succ]at hx;have ih:=zee (λx hx=>hz x (List.mem_cons_of_mem _ hx)) hx ho
  have ha:=hz a List.mem_cons_self;have e:(i+1)*z+o=a.cells.length+(i*z+o):=by rw[ha,Nat.add_mul];omega
  rw[List.flatMap_cons,e,List.getElem?_append_right (Nat.le_add_right _ _),Nat.add_sub_cancel_left];exact ih
inductive Slot where
 |tmp (t k:Nat)
 |cell (b o:Nat)
 deriving DecidableEq
def Root.slot:Root->Slot
 | .tmp t=>.tmp t 0
 | .cell b o=>.cell b o
structure G where
 c:Mem
 S:Slot->Blk
 β:Nat->Nat
 γ:Nat->Value
def zbc(w:World):Mem:=λb o=>w.cell? ⟨b,o,none⟩
def RootV(g:G)(tm:Array Value)(w:World):Root->Value->Prop
 | .tmp t,v=>tm.getD t undef=v
 | .cell b o,v=>if zab<=b then g.γ b=v else w.cell? ⟨g.β b,o,none⟩=some v
def PathV(w:World):Value->Path->Value->Prop
 |V,[],v=>V=v
 |V,(z,i,o)::p,v=> ∃b n cap u,V=.slice (some ⟨b,0,none⟩) n cap/\w.cell? ⟨b,i*z+o,none⟩=some u/\PathV w u p v
def ConcV(g:G)(tm:Array Value)(w:World)(l:Loc)(v:Value):Prop:=∃V,RootV g tm w l.root V/\PathV w V l.path v
theorem RootV.det{g:G}{tm:Array Value}{w:World}{r:Root}{v v':Value}(h:RootV g tm w r v)(h':RootV g tm w r v'):v=v':=by
 cases r with
 |tmp t=>exact(show tm.getD t undef=v from h).symm.trans h'
 |cell b o=>
  simp only[RootV]at h h';split at h
  ·rename_i hb;rw[if_pos hb]at h';exact h.symm.trans h'
  ·rename_i hb;rw[if_neg hb]at h';exact Option.some.inj (h.symm.trans h')
theorem PathV.det{w:World}:∀{p:Path} {V v v':Value},PathV w V p v->PathV w V p v' ->v=v'
 | [],_,_,_,h,h' =>(show _=_ from h).symm.trans h'
 |(z,i,o)::p,V,v,v',⟨b,n,cap,u,hV,hu,hp⟩,⟨b',n',cap',u',hV',hu',hp'⟩=>by
  subst hV;simp only[Value.slice.injEq,Option.some.injEq,Addr.mk.injEq,and_true]at hV';obtain⟨rfl,_,_⟩:=hV';obtain rfl:=Option.some.inj (hu.symm.trans hu');exact PathV.det hp hp'
theorem ConcV.det{g:G}{tm:Array Value}{w:World}{l:Loc}{v v':Value}:ConcV g tm w l v->ConcV g tm w l v' ->v=v'
 |⟨_,h1,h2⟩,⟨_,h1',h2'⟩=>by obtain rfl:=h1.det h1';exact h2.det h2'
theorem OwnC.access{w:World}:∀{p:Path} {d d':D} {v:Value} {T:Blk},OwnC w d v T->d.sub p=some d' ->
 ∃v' U,PathV w v p v' /\OwnC w d' v' U/\(∀x,U x->T x)/\(∀w':World,(∀x,T x->w'.heap[x]? =w.heap[x]?)->PathV w' v p v')/\(p≠[]->v'.oneCell' =true)
 | [],d,d',v,T,h,hs=>by
   simp only[D.sub,Option.some.injEq]at hs;subst hs;exact⟨v,T,rfl,h,λ_ hx=>hx,λ_ _=>rfl,λh=>absurd rfl h⟩
 |(z,i,o)::p,d,d',v,T,h,hs=>by
  simp only[D.sub]at hs;split at hs
  ·rename_i c hc
   cases d with
   |sl z' xs=>
    simp only[D.cellAt]at hc;split at hc
    ·rename_i hzz;subst hzz;split at hc
     ·rename_i x hx
      cases h with
      |flat hf _=>simp[D.flat]at hf
      |nil=>simp at hx
      | @row z xs b cap e cur T U h1 h2 h3 h4 h5 h6 h7 h8 h9 h10 h11=>
        have hcell:=zee h9 hx hc;have hlt:=(List.getElem?_eq_some_iff.1 hcell).1;rw[zat h9]at hlt;have hcs:i*z+o<cur.size:=by rw[h2];exact Nat.lt_of_lt_of_le hlt (Nat.mul_le_mul_right _ h3)
        have hown:=h11 _ _ hcell;obtain⟨v',U',hp,ho,hU,hfr,hone⟩:=OwnC.access hown hs
        have hcellW:∀w':World,w'.heap[b]? =w.heap[b]? ->w'.cell? ⟨b,i*z+o,none⟩=some (cur.getD (i*z+o) undef):=by
         exact λw' hw' =>(h1.frame hw').cell hcs
        refine⟨v',U',⟨b,xs.length,cap,_,rfl,hcellW w rfl,hp⟩,ho,λx hx=>(h7 _ x (hU x hx)).1,λw' hw' =>⟨b,xs.length,cap,_,rfl,hcellW w' (hw' b h6),hfr w' (λx hx=>hw' x (h7 _ x hx).1)⟩,λ_=>?_⟩
        cases p with
        |nil=>
         obtain rfl:cur.getD (i*z+o) undef=v':=hp;exact h10 _ hlt
        |cons q r=>exact hone (by simp)
     ·cases hc
    ·cases hc
   |_=>simp[D.cellAt]at hc
  ·cases hs
def RepCap(g:G)(env:Env):Cap->Value->Prop
 | .ptr b,v=>(env.box b).isSome=true->b<zab->v=.pointer (some ⟨g.β b,0,none⟩)
 | .ro d,v=>RO g.c d v
def TagAt(w:World)(x:Nat)(t:TypeId):Prop:=∃arr fz,w.heap[x]? =some (.cells arr t fz)
def RepA(g:G)(env:Env)(tm:Array Value)(w:World)(s:Slot):A->Value->Prop
 | .ro d,v=>RO g.c d v
 | .own d,v=>OwnC w d v (g.S s)
 | .view l,v=> ∀d,env.ownAt l=some d->ConcV g tm w l v
 | .ptr b o,v=>(env.box b).isSome=true->b<zab->v=.pointer (some ⟨g.β b,o,none⟩)
 | .eptr l z i o,v=> ∀xs,env.ownAt l=some (.sl z xs)->i<xs.length-> ∃b n cap,ConcV g tm w l (.slice (some ⟨b,0,none⟩) n cap)/\v=.pointer (some ⟨b,i*z+o,none⟩)
 | .pview l i k,v=> ∀z xs,env.ownAt l=some (.sl z xs)->k<=xs.length-> ∃a n cap,ConcV g tm w l (.slice a n cap)/\v=.slice (if cap=i then a else a.map (·.add (i*z))) (k-i) (cap-i)
 | .rptr ds,v=> ∃b off,v=.pointer (some ⟨b,off,none⟩)/\ ∀m d,ds[m]? =some d-> ∃u,g.c b (off+m)=some u/\u.oneCell' =true/\RO g.c d u
 | .fn f caps,v=> ∃vs:Array Value,v=.func (.func f) #[] vs/\vs.size=caps.length/\ ∀k c,caps[k]? =some c->RepCap g env c (vs.getD k undef)
 | .selfp,v=> ∃b o,s=.cell b o/\(b<zab->v=.pointer (some ⟨g.β b,0,none⟩))
 | .bnil t,v=>v=.pointer none/\ ∃b o,s=.cell b o/\(b<zab->TagAt w (g.β b) t)
 | .undef,v=>v=undef
 | .dead,_=>True
def RepV(g:G)(env:Env)(tm:Array Value)(w:World)(t:Nat):V->Value->Prop
 | .one a,v=>RepA g env tm w (.tmp t 0) a v
 | .tup as,v=> ∃vs:Array Value,v=.tuple vs/\vs.size=as.length/\ ∀k a,as[k]? =some a->RepA g env tm w (.tmp t k) a (vs.getD k undef)
 | .agg as,v=> ∃vs:Array Value,v=.agg vs/\vs.size=as.length/\ ∀k a,as[k]? =some a->(vs.getD k undef).oneCell' =true/\RepA g env tm w (.tmp t k) a (vs.getD k undef)
def RepBox(g:G)(env:Env)(tm:Array Value)(w:World)(b:Nat)(cs:List A):Prop:=
 if zab<=b then ∃a,cs=[a]/\a.portable=true/\RepA g env tm w (.cell b 0) a (g.γ b)
 else ∃arr e,w.heap[g.β b]? =some (.cells arr e (0,0))/\arr.size=cs.length/\ ∀o a,cs[o]? =some a->a.portable=true/\(arr.getD o undef).oneCell' =true/\RepA g env tm w (.cell b o) a (arr.getD o undef)
class Base where
 W0:World
structure Sim[Base](g:G)(env:Env)(tm:Array Value)(w:World):Prop where
 size:env.size<=tm.size
 tv:∀t,RepV g env tm w t (env.get t) (tm.getD t undef)
 bx:∀b cs,env.box b=some cs->RepBox g env tm w b cs
 binj:∀b b',(env.box b).isSome=true->(env.box b').isSome=true->b<zab->b' <zab->g.β b=g.β b' ->b=b'
 sdis:∀s s' x,g.S s x->g.S s' x->s=s'
 sbox:∀s b x,g.S s x->(env.box b).isSome=true->b<zab->g.β b≠x
 slt:∀s x,g.S s x->x<w.heap.size
 cmem:g.c.le (zbc w)
 cdis:∀b o v,g.c b o=some v->(∀s,¬g.S s b)/\(∀id,(env.box id).isSome=true->id<zab->g.β id≠b)
 base:(zbc Base.W0).le g.c
 fix:∀x v,Base.W0.cell? ⟨x,0,none⟩=some v->w.heap[x]? =Base.W0.heap[x]?
def A.okRefs(F:Loc->Prop)(B:Nat->Prop):A->Prop
 | .view l=>F l
 | .eptr l ..=>F l
 | .pview l _ _=>F l
 | .ptr b _=>B b
 | .fn _ caps=> ∀b,Cap.ptr b∈caps->B b
 |_=>True
structure zcy(g:G)(env:Env)(tm:Array Value)(w:World)(g':G)(env':Env)(tm':Array Value)(w':World)(F:Loc->Prop)(B:Nat->Prop):Prop where
 c:g.c.le g'.c
 loc:∀l,F l-> ∀d',env'.ownAt l=some d' -> ∃d,env.ownAt l=some d/\(∀z xs',d' =.sl z xs' -> ∃xs,d=.sl z xs/\xs'.length<=xs.length)/\ ∀v,ConcV g tm w l v->ConcV g' tm' w' l v
 box:∀b,B b->(env'.box b).isSome=true->b<zab->(env.box b).isSome=true/\g'.β b=g.β b
theorem RepCap.keep{g g':G}{env env':Env}{tm tm':Array Value}{w w':World}{F:Loc->Prop}{B:Nat->Prop}(K:zcy g env tm w g' env' tm' w' F B){c:Cap}{v:Value}
 (hc:∀b,c=.ptr b->B b) (h:RepCap g env c v):RepCap g' env' c v:=by
 cases c with
 |ptr b=>
  intro hb hlt;obtain⟨h1,h2⟩:=K.box b (hc b rfl) hb hlt;rw[h2];exact h h1 hlt
 |ro d=>exact RO.mono K.c h
theorem RepA.keep{g g':G}{env env':Env}{tm tm':Array Value}{w w':World}{F:Loc->Prop}{B:Nat->Prop}(K:zcy g env tm w g' env' tm' w' F B){s s':Slot}{a:A}{v:Value}
 (hr:a.okRefs F B) (hown:∀d,a=.own d-> ∀x,g.S s x->g'.S s' x/\w'.heap[x]? =w.heap[x]?)
 (hself:a.isSelf=true->s' =s/\ ∀b o,s=.cell b o->b<zab->g'.β b=g.β b/\ ∀t,TagAt w (g.β b) t->TagAt w' (g.β b) t) (h:RepA g env tm w s a v):RepA g' env' tm' w' s' a v:=by
 cases a with
 |ro d=>exact RO.mono K.c h
 |own d=>exact(OwnC.frame h (λx hx=>(hown d rfl x hx).2)).mono (λx hx=>(hown d rfl x hx).1)
 |view l=>
  intro d' hd';obtain⟨d,hd,_,hv⟩:=K.loc l hr d' hd';exact hv v (h d hd)
 |ptr b o=>
  intro hb hlt;obtain⟨h1,h2⟩:=K.box b hr hb hlt;rw[h2];exact h h1 hlt
 |eptr l z i o=>
  intro xs' hxs' hi;obtain⟨d,hd,hlen,hv⟩:=K.loc l hr _ hxs';obtain⟨xs,rfl,hle⟩:=hlen z xs' rfl;obtain⟨b,n,cap,hc,rfl⟩:=h xs hd (Nat.lt_of_lt_of_le hi hle);exact⟨b,n,cap,hv _ hc,rfl⟩
 |pview l i k=>
  intro z xs' hxs' hk;obtain⟨d,hd,hlen,hv⟩:=K.loc l hr _ hxs';obtain⟨xs,rfl,hle⟩:=hlen z xs' rfl;obtain⟨a,n,cap,hc,rfl⟩:=h z xs hd (Nat.le_trans hk hle);exact⟨a,n,cap,hv _ hc,rfl⟩
 |rptr ds=>
  obtain⟨b,off,rfl,hd⟩:=h;refine⟨b,off,rfl,λm d hm=>?_⟩
  obtain⟨u,h1,h2,h3⟩:=hd m d hm;exact⟨u,K.c _ _ _ h1,h2,h3.mono K.c⟩
 |fn f caps=>
  obtain⟨vs,rfl,hs,hk⟩:=h;exact⟨vs,rfl,hs,λk c hc=>(hk k c hc).keep K (λb hb=>hr b (hb▸List.mem_of_getElem? hc))⟩
 |selfp=>
  obtain⟨b,o,rfl,hv⟩:=h;obtain⟨rfl,hβ⟩:=hself rfl;exact⟨b,o,rfl,λhb=>by rw[(hβ b o rfl hb).1];exact hv hb⟩
 |bnil t=>
  obtain⟨rfl,b,o,rfl,hv⟩:=h;obtain⟨rfl,hβ⟩:=hself rfl;exact⟨rfl,b,o,rfl,λhb=>by rw[(hβ b o rfl hb).1];exact(hβ b o rfl hb).2 t (hv hb)⟩
 |undef=>exact h
 |dead=>trivial
theorem Sim.rootOwn[Base]{g:G}{env:Env}{tm:Array Value}{w:World}(h:Sim g env tm w){r:Root}{d:D}(hr:env.root r=.own d):
 ∃V,RootV g tm w r V/\OwnC w d V (g.S r.slot):=by
 cases r with
 |tmp t=>
  have ht:=h.tv t;simp only[Env.root]at hr;split at hr
  ·rename_i a ha;subst hr;rw[ha]at ht;exact⟨_,rfl,ht⟩
  ·cases hr
 |cell b o=>
  simp only[Env.root]at hr;split at hr
  ·rename_i cs hcs;have hb:=h.bx b cs hcs
   have ho:cs[o]? =some (.own d):=by
    rw[List.getD_eq_getElem?_getD]at hr
    cases hq:cs[o]? with
    |none=>rw[hq]at hr;cases hr
    |some a=>rw[hq]at hr;exact congrArg some hr
   unfold RepBox at hb;split at hb
   ·rename_i hg;obtain⟨a,rfl,_,ha⟩:=hb
    cases o with
    |zero=>
     simp only[List.getElem?_cons_zero,Option.some.injEq]at ho;subst ho;exact⟨g.γ b,by simp[RootV,hg],ha⟩
    |succ o=>simp at ho
   ·rename_i hg;obtain⟨arr,e,h1,h2,h3⟩:=hb;have hlt:=(List.getElem?_eq_some_iff.1 ho).1;refine⟨arr.getD o undef,?_,(h3 o _ ho).2.2⟩;simp only[RootV];rw[if_neg hg];simp[World.cell?,h1,h2,hlt]
  ·cases hr
theorem Sim.ownAt[Base]{g:G}{env:Env}{tm:Array Value}{w:World}(h:Sim g env tm w){l:Loc}{d:D}(hl:env.ownAt l=some d):
 ∃v U,ConcV g tm w l v/\OwnC w d v U/\(∀x,U x->g.S l.root.slot x)/\(l.path≠[]->v.oneCell' =true):=by
 simp only[Env.ownAt]at hl;split at hl
 ·rename_i D hD;obtain⟨V,h1,h2⟩:=h.rootOwn hD;obtain⟨v,U,hp,ho,hU,_,hone⟩:=h2.access hl;exact⟨v,U,⟨V,h1,hp⟩,ho,hU,hone⟩
 ·cases hl
end Go.Qz
namespace Go.Qz
def zgm(f:A->A)(F:Loc->Prop)(B:Nat->Prop):Prop:=∀a,f a=.dead∨(f a=a/\a.okRefs F B)
theorem zcq{a:A}(h:a.portable=true)(F:Loc->Prop)(B:Nat->Prop):a.okRefs F B:=by
 cases a with
 |fn f caps=>
  cases caps with
  |nil=>intro b hb;cases hb
  |cons c r=>simp[A.portable]at h
 |view l=>simp[A.portable]at h
 |ptr b o=>simp[A.portable]at h
 |eptr l z i o=>simp[A.portable]at h
 |pview l i k=>simp[A.portable]at h
 |_=>trivial
theorem RepA.kill{g g':G}{env env':Env}{tm tm':Array Value}{w w':World}{F:Loc->Prop}{B:Nat->Prop}(K:zcy g env tm w g' env' tm' w' F B){f:A->A}(hf:zgm f F B){t k:Nat}{a:A}{v:Value}
 (hown:∀x,g.S (.tmp t k) x->g'.S (.tmp t k) x/\w'.heap[x]? =w.heap[x]?) (h:RepA g env tm w (.tmp t k) a v):RepA g' env' tm' w' (.tmp t k) (f a) v:=by
 rcases hf a with hd|⟨he,hr⟩
 ·rw[hd];trivial
 ·rw[he];exact h.keep K hr (λ_ _=>hown) (λe=>⟨rfl,λb o hs=>by cases hs⟩)
theorem RepV.kill{g g':G}{env env':Env}{tm tm':Array Value}{w w':World}{F:Loc->Prop}{B:Nat->Prop}(K:zcy g env tm w g' env' tm' w' F B){f:A->A}(hf:zgm f F B){t:Nat}{V:V}{v:Value}
 (hown:∀k x,g.S (.tmp t k) x->g'.S (.tmp t k) x/\w'.heap[x]? =w.heap[x]?) (h:RepV g env tm w t V v):RepV g' env' tm' w' t (V.mapA f) v:=by
 cases V with
 |one a=>exact RepA.kill K hf (hown 0) h
 |tup as=>
  obtain⟨vs,rfl,hs,hk⟩:=h;refine⟨vs,rfl,by simp[hs],λk a ha=>?_⟩
  rw[List.getElem?_map]at ha
  cases hq:as[k]? with
  |none=>rw[hq]at ha;cases ha
  |some a0=>
   rw[hq]at ha;obtain rfl:=Option.some.inj ha;exact RepA.kill K hf (hown k) (hk k a0 hq)
 |agg as=>
  obtain⟨vs,rfl,hs,hk⟩:=h;refine⟨vs,rfl,by simp[hs],λk a ha=>?_⟩
  rw[List.getElem?_map]at ha
  cases hq:as[k]? with
  |none=>rw[hq]at ha;cases ha
  |some a0=>
   rw[hq]at ha;obtain rfl:=Option.some.inj ha;exact⟨(hk k a0 hq).1,RepA.kill K hf (hown k) (hk k a0 hq).2⟩
theorem zln(V:V):V.mapA id=V:=by cases V<;>simp[V.mapA]
theorem z24:zgm id (λ_=>True) (λ_=>True):=λa=>.inr ⟨rfl,by cases a<;>simp[A.okRefs]⟩
theorem ze9{f:A->A}{F F':Loc->Prop}{B B':Nat->Prop}(hf:zgm f F B)(h1:∀l,F l->F' l)(h2:∀b,B b->B' b):zgm f F' B':=λa=>by
 rcases hf a with hd|⟨he,hr⟩
 ·exact .inl hd
 ·refine .inr ⟨he,?_⟩
  cases a with
  |view l=>exact h1 l hr
  |eptr l z i o=>exact h1 l hr
  |pview l i k=>exact h1 l hr
  |ptr b o=>exact h2 b hr
  |fn f caps=>exact λb hb=>h2 b (hr b hb)
  |_=>trivial
theorem RepV.keep{g g':G}{env env':Env}{tm tm':Array Value}{w w':World}(K:zcy g env tm w g' env' tm' w' (λ_=>True) (λ_=>True)){t:Nat}{V:V}{v:Value}
 (hown:∀k x,g.S (.tmp t k) x->g'.S (.tmp t k) x/\w'.heap[x]? =w.heap[x]?) (h:RepV g env tm w t V v):RepV g' env' tm' w' t V v:=by
 have:=RepV.kill K z24 hown h;rwa [zln]at this
theorem RepBox.keep{g g':G}{env env':Env}{tm tm':Array Value}{w w':World}{F:Loc->Prop}{B:Nat->Prop}(K:zcy g env tm w g' env' tm' w' F B){b:Nat}{cs:List A}
 (hown:∀o x,g.S (.cell b o) x->g'.S (.cell b o) x/\w'.heap[x]? =w.heap[x]?) (hβ:b<zab->g'.β b=g.β b/\w'.heap[g.β b]? =w.heap[g.β b]?) (hγ:zab<=b->g'.γ b=g.γ b)
 (h:RepBox g env tm w b cs):RepBox g' env' tm' w' b cs:=by
 unfold RepBox at h ⊢;split
 ·rename_i hg;rw[if_pos hg]at h;obtain⟨a,rfl,hp,ha⟩:=h;refine⟨a,rfl,hp,?_⟩;rw[hγ hg];exact ha.keep K (zcq hp F B) (λ_ _=>hown 0) (λ_=>⟨rfl,λb' o' hs hlt=>by cases hs;exact absurd hg (by omega)⟩)
 ·rename_i hg;rw[if_neg hg]at h;obtain⟨arr,e,h1,h2,h3⟩:=h;obtain⟨hb1,hb2⟩:=hβ (by omega)
  refine⟨arr,e,by rw[hb1,hb2];exact h1,h2,λo a ha=>?_⟩
  obtain⟨hp,h1c,hr⟩:=h3 o a ha;exact⟨hp,h1c,hr.keep K (zcq hp F B) (λ_ _=>hown o) (λ_=>⟨rfl,λb' o' hs _=>by cases hs;exact⟨hb1,λt ⟨arr,fz,ht⟩=>⟨arr,fz,by rw[hb2];exact ht⟩⟩⟩)⟩
theorem Sim.conc[Base]{g:G}{env:Env}{tm:Array Value}{w:World}(h:Sim g env tm w){l:Loc}{d:D}(hl:env.ownAt l=some d){g':G}{tm':Array Value}{w':World}
 (hroot:∀V,RootV g tm w l.root V->RootV g' tm' w' l.root V) (hheap:∀x,g.S l.root.slot x->w'.heap[x]? =w.heap[x]?) {v:Value} (hv:ConcV g tm w l v):ConcV g' tm' w' l v:=by
 simp only[Env.ownAt]at hl;split at hl
 ·rename_i D hD;obtain⟨V,h1,h2⟩:=h.rootOwn hD;obtain⟨v',U,hp,_,_,hfr,_⟩:=h2.access hl;obtain⟨V',h1',hp'⟩:=hv;obtain rfl:=h1.det h1';obtain rfl:=hp.det hp';exact⟨V,hroot V h1,hfr w' hheap⟩
 ·cases hl
theorem RootV.world{g:G}{env:Env}{tm:Array Value}{w w':World}{r:Root}{D:D}(hD:env.root r=.own D)(hb:∀b,(env.box b).isSome=true->b<zab->w'.heap[g.β b]? =w.heap[g.β b]?)(V:Value)
 (hV:RootV g tm w r V):RootV g tm w' r V:=by
 cases r with
 |tmp t=>exact hV
 |cell b o=>
  simp only[RootV]at hV ⊢;split
  ·rename_i hg;rw[if_pos hg]at hV;exact hV
  ·rename_i hg;rw[if_neg hg]at hV
   have hs:(env.box b).isSome=true:=by
    simp only[Env.root]at hD;split at hD
    ·rename_i cs hcs;rw[hcs];rfl
    ·cases hD
   rw[World.cell?_of_block (w':=w') (w:=w) (hb b hs (by omega))]
   exact hV
theorem Sim.grow[Base]{g:G}{env:Env}{tm:Array Value}{w w':World}(h:Sim g env tm w)(hs:w.heap.size<=w'.heap.size)(hold:∀x,x<w.heap.size->w'.heap[x]? =w.heap[x]?):Sim g env tm w':=by
 have hβ:∀b,(env.box b).isSome=true->b<zab->w'.heap[g.β b]? =w.heap[g.β b]?:=by
  intro b hb hlt;obtain⟨cs,hcs⟩:=Option.isSome_iff_exists.1 hb;have:=h.bx b cs hcs;unfold RepBox at this;rw[if_neg (by omega)]at this
  obtain⟨arr,e,h1,_⟩:=this;exact hold _ (Array.getElem?_eq_some_iff.1 h1).1
 have hS:∀s x,g.S s x->w'.heap[x]? =w.heap[x]?:=λs x hx=>hold x (h.slt s x hx)
 have K:zcy g env tm w g env tm w' (λ_=>True) (λ_=>True):=⟨λ_ _ _ hx=>hx,λl _ d' hd' =>⟨d',hd',λz xs' e=>⟨xs',e,Nat.le_refl _⟩,λv hv=>by
  have hl:=hd';simp only[Env.ownAt]at hl;split at hl
  ·rename_i D hD;exact h.conc hd' (λV hV=>RootV.world hD hβ V hV) (λx hx=>hS _ x hx) hv
  ·cases hl⟩,λb _ hb _=>⟨hb,rfl⟩⟩
 exact{
  size:=h.size
  tv:=λt=>(h.tv t).keep K (λk x hx=>⟨hx,hS _ x hx⟩)
  bx:=λb cs hcs=>(h.bx b cs hcs).keep K (λo x hx=>⟨hx,hS _ x hx⟩) (λhlt=>⟨rfl,hβ b (by rw[hcs];rfl) hlt⟩) (λ_=>rfl)
  binj:=h.binj
  sdis:=h.sdis
  sbox:=h.sbox
  slt:=λs x hx=>Nat.lt_of_lt_of_le (h.slt s x hx) hs
  cmem:=λb o v hv=>by
   have hc:=h.cmem b o v hv;have hlt:b<w.heap.size:=World.block_lt_of_cell? w _ hc;simp only[zbc]at hc ⊢;rw[World.cell?_of_block (w':=w') (w:=w) (hold b hlt)];exact hc
  base:=h.base
  fix:=λx v hv=>(hold x (World.block_lt_of_cell? w _ (h.cmem _ _ _ (h.base _ _ _ hv)))).trans (h.fix x v hv)
  cdis:=h.cdis}
def G.setS(g:G)(t:Nat)(Y:Nat->Blk):G:={g with S:=λs=>match s with
 | .tmp t' k=>if t' =t then Y k else g.S (.tmp t' k)
 |s=>g.S s}
theorem zp6(g:G)(t k:Nat)(Y:Nat->Blk):(g.setS t Y).S (.tmp t k)=Y k:=by simp[G.setS]
theorem zjo(g:G){t t':Nat}(k:Nat)(Y:Nat->Blk)(h:t' ≠t):(g.setS t Y).S (.tmp t' k)=g.S (.tmp t' k):=by simp[G.setS,h]
theorem zbk(g:G)(t:Nat)(Y:Nat->Blk){s:Slot}{x:Nat}(h:(g.setS t Y).S s x):(∃k,s=.tmp t k/\Y k x)∨((∀k,s≠.tmp t k)/\g.S s x):=by
 cases s with
 |tmp t' k=>
  by_cases e:t' =t
  ·subst e;rw[zp6]at h;exact .inl ⟨k,rfl,h⟩
  ·rw[zjo g k Y e]at h;exact .inr ⟨λk' he=>e (by cases he;rfl),h⟩
 |cell b o=>exact .inr ⟨λk he=>(by cases he),h⟩
theorem zu3(tm:Array Value)(t t':Nat)(v:Value)(ht:t<tm.size):(tm.setIfInBounds t v).getD t' undef=if t' =t then v else tm.getD t' undef:=by
 by_cases h:t' =t
 ·subst h;simp[Array.getD_eq_getD_getElem?,ht]
 ·rw[if_neg h];simp[Array.getD_eq_getD_getElem?,Array.getElem?_setIfInBounds_ne (Ne.symm h)]
theorem zd0(r:Root):zgm (A.drop r) (λl=>l.root≠r) (λ_=>True):=by
 intro a
 cases a with
 |view l=>by_cases h:l.root=r<;>simp[A.drop,h,A.okRefs]
 |eptr l z i o=>by_cases h:l.root=r<;>simp[A.drop,h,A.okRefs]
 |pview l i k=>by_cases h:l.root=r<;>simp[A.drop,h,A.okRefs]
 |_=>exact .inr ⟨rfl,by simp[A.okRefs]⟩
theorem Sim.put[Base]{g:G}{env:Env}{tm:Array Value}{w:World}(h:Sim g env tm w){t:Nat}(htm:t<tm.size){V':V}{v':Value}(Y:Nat->Blk)
 (hrep:RepV (g.setS t Y) env tm w t V' v') (hY1:∀k k' x,Y k x->Y k' x->k=k') (hY2:∀k s x,Y k x->g.S s x-> ∃k',s=.tmp t k')
 (hY3:∀k x b,Y k x->(env.box b).isSome=true->b<zab->g.β b≠x) (hY4:∀k x,Y k x->x<w.heap.size) (hY5:∀k x o v,Y k x->g.c x o=some v->False):
 Sim (g.setS t Y) (env.set t V') (tm.setIfInBounds t v') w:=by
 obtain⟨f,hset,hkill⟩:∃f:A->A,env.set t V' =(env.mapA f).set0 t V' /\(zgm f (λl=>l.root≠.tmp t) (λ_=>True)∨((∀a,f a=a)/\ ∀d,V' ≠.one (.own d))):=by
  by_cases hv:∃d,V' =.one (.own d)
  ·obtain⟨d,rfl⟩:=hv;exact⟨A.drop (.tmp t),rfl,.inl (zd0 _)⟩
  ·refine⟨id,?_,.inr ⟨λ_=>rfl,λd e=>hv ⟨d,e⟩⟩⟩
   have e1:env.mapA id=env:=by
    cases env;simp only[Env.mapA,Env.mk.injEq,true_and,and_true];funext t;exact zln _
   rw[e1]
   cases V' with
   |one a=>cases a<;>first|rfl|exact absurd ⟨_,rfl⟩ hv
   |tup as=>rfl
   |agg as=>rfl
 rw[hset]
 have hroot:∀r:Root,r≠.tmp t-> ∀V,RootV g tm w r V->RootV (g.setS t Y) (tm.setIfInBounds t v') w r V:=by
  intro r hr V hV
  cases r with
  |tmp t' =>
   have:t' ≠t:=λe=>hr (by rw[e])
   simp only[RootV]at hV ⊢;rw[zu3 tm t t' v' htm,if_neg this];exact hV
  |cell b o=>exact hV
 have hown:∀l d',l.root≠.tmp t->((env.mapA f).set0 t V').ownAt l=some d' ->env.ownAt l=some d':=by
  intro l d' hl hd;simp only[Env.ownAt]at hd ⊢
  cases hq:l.root with
  |tmp t' =>
   have hne:t' ≠t:=λe=>hl (by rw[hq,e])
   rw[hq]at hd;simp only[Env.root,Env.get,Env.set0,Env.mapA,hne,if_false]at hd ⊢
   cases hV:env.tmps t' with
   |one a=>
    rw[hV]at hd;simp only[V.mapA]at hd
    cases hfa:f a with
    |own d=>
     have hfa':a=.own d:=by
      rcases hkill with hk|⟨hk,_⟩
      ·rcases hk a with hd' |⟨he,_⟩
       ·rw[hfa]at hd';cases hd'
       ·rw[<-he];exact hfa
      ·rw[<-hk a];exact hfa
     rw[hfa]at hd;rw[hfa'];exact hd
    |_=>rw[hfa]at hd;cases hd
   |tup as=>rw[hV]at hd;simp[V.mapA]at hd
   |agg as=>rw[hV]at hd;simp[V.mapA]at hd
  |cell b o=>
   rw[hq]at hd;exact hd
 have hnone:∀l d',l.root=.tmp t->(∀d,V' ≠.one (.own d))->((env.mapA f).set0 t V').ownAt l=some d' ->False:=by
  intro l d' hl hv hd;simp only[Env.ownAt,hl,Env.root,Env.get,Env.set0,if_true]at hd
  cases V' with
  |one a=>cases a<;>first|(simp at hd;done)|exact hv _ rfl
  |tup as=>simp at hd
  |agg as=>simp at hd
 have hheap:∀l:Loc,∀x,g.S l.root.slot x->w.heap[x]? =w.heap[x]?:=λ_ _ _=>rfl
 have Kf:zcy g env tm w (g.setS t Y) ((env.mapA f).set0 t V') (tm.setIfInBounds t v') w (λl=>l.root≠.tmp t∨ ∀d,V' ≠.one (.own d)) (λ_=>True):=
  ⟨λ_ _ _ hx=>hx,λl hl d' hd' =>by
   have hne:l.root≠.tmp t:=by
    rcases hl with hl|hl
    ·exact hl
    ·exact λe=>hnone l d' e hl hd'
   have hd:=hown l d' hne hd'
   exact⟨d',hd,λz xs' e=>⟨xs',e,Nat.le_refl _⟩,λv hv=>h.conc hd (λV hV=>hroot _ hne V hV) (hheap l) hv⟩,
   λb _ hb _=>⟨hb,rfl⟩⟩
 have hkf:zgm f (λl=>l.root≠.tmp t∨ ∀d,V' ≠.one (.own d)) (λ_=>True):=by
  rcases hkill with hk|⟨hk,hv⟩
  ·exact ze9 hk (λl hl=>.inl hl) (λ_ hb=>hb)
  ·exact λa=>.inr ⟨hk a,by cases a<;>first|trivial|exact Or.inr hv|(intro b hb;trivial)⟩
 refine{
  size:=by simp only[Array.size_setIfInBounds];exact h.size
  tv:=λt' =>?_
  bx:=λb cs hcs=>(h.bx b cs hcs).keep Kf (λo x hx=>⟨hx,rfl⟩) (λ_=>⟨rfl,rfl⟩) (λ_=>rfl)
  binj:=h.binj
  sdis:=?_
  sbox:=?_
  slt:=?_
  cmem:=h.cmem
  base:=h.base
  fix:=h.fix
  cdis:=?_}
 ·rw[zu3 tm t t' v' htm];by_cases e:t' =t
  ·subst e;rw[if_pos rfl];have eg:((env.mapA f).set0 t' V').get t' =V':=by simp[Env.get,Env.set0]
   rw[eg]
   have K2:zcy (g.setS t' Y) env tm w (g.setS t' Y) ((env.mapA f).set0 t' V') (tm.setIfInBounds t' v') w (λl=>l.root≠.tmp t' ∨ ∀d,V' ≠.one (.own d)) (λ_=>True):=
    ⟨λ_ _ _ hx=>hx,Kf.loc,λb _ hb _=>⟨hb,rfl⟩⟩
   by_cases hv:∃d,V' =.one (.own d)
   ·obtain⟨d,rfl⟩:=hv;exact hrep
   ·refine RepV.keep ⟨K2.c,λl _=>K2.loc l (.inr λd e=>hv ⟨d,e⟩),K2.box⟩ (λk x hx=>⟨hx,rfl⟩) hrep
  ·rw[if_neg e];have eg:((env.mapA f).set0 t V').get t' =(env.get t').mapA f:=by simp[Env.get,Env.set0,Env.mapA,e]
   rw[eg];exact(h.tv t').kill Kf hkf (λk x hx=>⟨by rw[zjo g k Y e];exact hx,rfl⟩)
 ·intro s s' x hx hx';rcases zbk g t Y hx with⟨k,rfl,hy⟩|⟨hn,hs⟩
  ·rcases zbk g t Y hx' with⟨k',rfl,hy'⟩|⟨hn',hs'⟩
   ·rw[hY1 k k' x hy hy']
   ·obtain⟨k',rfl⟩:=hY2 k s' x hy hs';exact absurd rfl (hn' k')
  ·rcases zbk g t Y hx' with⟨k',rfl,hy'⟩|⟨hn',hs'⟩
   ·obtain⟨k,rfl⟩:=hY2 k' s x hy' hs;exact absurd rfl (hn k)
   ·exact h.sdis s s' x hs hs'
 ·intro s b x hx hb hlt;rcases zbk g t Y hx with⟨k,rfl,hy⟩|⟨_,hs⟩
  ·exact hY3 k x b hy hb hlt
  ·exact h.sbox s b x hs hb hlt
 ·intro s x hx;rcases zbk g t Y hx with⟨k,rfl,hy⟩|⟨_,hs⟩
  ·exact hY4 k x hy
  ·exact h.slt s x hs
 ·intro b o v hv;refine⟨λs hx=>?_,(h.cdis b o v hv).2⟩
  rcases zbk g t Y hx with⟨k,rfl,hy⟩|⟨_,hs⟩
  ·exact hY5 k b o v hy hv
  ·exact(h.cdis b o v hv).1 s hs
end Go.Qz
namespace Go.Qz
theorem zoy{z:Nat}{x c:D}:∀{xs:List D} {i o:Nat},(∀x∈xs,x.cells.length=z)->xs[i]? =some x->o<x.cells.length->(x.withCells (x.cells.set o c)).cells=x.cells.set o c->
 (xs.set i (x.withCells (x.cells.set o c))).flatMap D.cells=(xs.flatMap D.cells).set (i*z+o) c
 | [],i,o,_,hx,_,_=>by simp at hx
 |a::r,0,o,hz,hx,ho,hw=>by
  simp only[List.getElem?_cons_zero,Option.some.injEq]at hx;subst hx;rw[List.set_cons_zero,List.flatMap_cons,List.flatMap_cons,hw,Nat.zero_mul,Nat.zero_add,List.set_append_left _ _ ho]
 |a::r,i+1,o,hz,hx,ho,hw=>by
  simp only[List.getElem?_cons_succ]at hx;have ih:=zoy (λx hx=>hz x (List.mem_cons_of_mem _ hx)) hx ho hw
  have ha:=hz a List.mem_cons_self;have e:(i+1)*z+o=a.cells.length+(i*z+o):=by rw[ha,Nat.add_mul];omega
  rw[List.set_cons_succ,List.flatMap_cons,List.flatMap_cons,ih,e,List.set_append_right _ _ (Nat.le_add_right _ _),Nat.add_sub_cancel_left]
theorem zit{z:Nat}{xs:List D}{i:Nat}{x':D}(hz:∀x∈xs,x.cells.length=z)(hx:x'.cells.length=z):∀x∈xs.set i x',x.cells.length=z:=by
 intro x hm;rcases List.mem_or_eq_of_mem_set hm with h|h
 ·exact hz x h
 ·rw[h];exact hx
theorem ziu{x c:D}{o:Nat}(hc:c.cells=[c])(ho:o<x.cells.length):(x.withCells (x.cells.set o c)).cells=x.cells.set o c:=by
 cases x with
 |agg ds=>rfl
 |_=>
  simp only[D.cells,List.length_singleton,Nat.lt_one_iff]at ho;subst ho;exact hc
theorem OwnC.poke{w:World}{z:Nat}{xs:List D}{v:Value}{U Y:Blk}{i o:Nat}{x d:D}{u:Value}(h:OwnC w (.sl z xs) v U)(hx:xs[i]? =some x)(ho:o<x.cells.length)
 (hd:d.cells=[d]) (hu:u.oneCell' =true) (hY:OwnC w d u Y) (hdis:∀x,Y x->U x->False):
 ∃b cap,v=.slice (some ⟨b,0,none⟩) xs.length cap/\U b/\w.cell? ⟨b,i*z+o,none⟩≠none/\w.frozen? ⟨b,i*z+o,none⟩=false/\
  OwnC (w.setCell ⟨b,i*z+o,none⟩ u) (.sl z (xs.set i (x.withCells (x.cells.set o d)))) v (λx=>U x∨Y x):=by
 cases h with
 |flat hf _=>simp[D.flat]at hf
 |nil=>simp at hx
 | @row z xs b cap e cur T Us h1 h2 h3 h4 h5 h6 h7 h8 h9 h10 h11=>
   have hcell:=zee h9 hx (List.getElem?_eq_getElem ho);have hlt:=(List.getElem?_eq_some_iff.1 hcell).1;rw[zat h9]at hlt;have hcs:i*z+o<cur.size:=by rw[h2];exact Nat.lt_of_lt_of_le hlt (Nat.mul_le_mul_right _ h3)
   refine⟨b,cap,rfl,h6,?_,?_,?_⟩
   ·rw[h1.cell hcs];exact λh=>nomatch h
   ·exact h1.live hcs
   ·have hnew:=h1.set (i*z+o) u
    have hold:∀y,y≠b->(w.setCell ⟨b,i*z+o,none⟩ u).heap[y]? =w.heap[y]?:=by
     intro y hy;simp[World.setCell,Array.getElem?_modify,Ne.symm hy]
    have hcel:=ziu (x:=x) hd ho;have hxz:x.cells.length=z:=h9 x (List.mem_of_getElem? hx);have hlen:(xs.set i (x.withCells (x.cells.set o d))).length=xs.length:=by simp
    rw[<-hlen];refine .row (λm y=>if m=i*z+o then Y y else Us m y) hnew (by simpa using h2) (by rw[hlen];exact h3) h4 h5 (.inl h6) ?_ ?_ ?_ ?_ ?_
    ·intro m y hy;split at hy
     ·exact⟨.inr hy,λe=>hdis y hy (e▸h6)⟩
     ·exact⟨.inl (h7 m y hy).1,(h7 m y hy).2⟩
    ·intro m m' y hy hy';split at hy<;>split at hy'
     ·omega
     ·exact absurd (h7 m' y hy').1 (λhu=>hdis y hy hu)
     ·exact absurd (h7 m y hy).1 (λhu=>hdis y hy' hu)
     ·exact h8 m m' y hy hy'
    ·exact zit h9 (by rw[hcel,List.length_set];exact hxz)
    ·intro m hm;rw[hlen]at hm;rw[getD_setIf cur m (i*z+o) u hcs];by_cases e:m=i*z+o
     ·rw[if_pos e];exact hu
     ·rw[if_neg e];exact h10 m hm
    ·intro m d' hd';rw[zoy h9 hx ho hcel]at hd';rw[getD_setIf cur m (i*z+o) u hcs];by_cases e:m=i*z+o
     ·subst e;rw[List.getElem?_set_self (by rw[zat h9];exact hlt)]at hd'
      obtain rfl:=Option.some.inj hd';rw[if_pos rfl];refine(hY.frame (λy hy=>hold y (λe=>hdis y hy (e▸h6)))).mono (λy hy=>?_)
      simp only[if_pos];exact hy
     ·rw[List.getElem?_set_ne (Ne.symm e)]at hd';rw[if_neg e];refine((h11 m d' hd').frame (λy hy=>hold y (h7 m y hy).2)).mono (λy hy=>?_)
      rw[if_neg e];exact hy
where
 getD_setIf (cur:Array Value) (m k:Nat) (u:Value) (hk:k<cur.size):(cur.setIfInBounds k u).getD m undef=if m=k then u else cur.getD m undef:=by
  by_cases h:m=k
  ·subst h;simp[Array.getD_eq_getD_getElem?,hk]
  ·rw[if_neg h];simp[Array.getD_eq_getD_getElem?,Array.getElem?_setIfInBounds_ne (Ne.symm h)]
theorem zu4:∀{p:Path} {d c:D},d.cells=[d]->c.cells=[c]->(d.repl p c).cells=[d.repl p c]
 | [],_,_,_,hc=>hc
 |(z,i,o)::p,d,c,hd,_=>by
  simp only[D.repl];split
  ·rename_i c' hc'
   cases d with
   |sl z' xs=>
    simp only[D.setAt];split
    ·split<;>rfl
    ·rfl
   |_=>simp[D.cellAt]at hc'
  ·exact hd
theorem OwnC.focus{w:World}:∀{p:Path} {D0 d:D} {V:Value} {T:Blk},OwnC w D0 V T->D0.sub p=some d->
 ∃v U,PathV w V p v/\OwnC w d v U/\(∀x,U x->T x)/\(∀w':World,(∀x,T x-> ¬U x->w'.heap[x]? =w.heap[x]?)->PathV w' V p v)/\ ∀(w':World) (d':D) (U':Blk),(∀x,T x-> ¬U x->w'.heap[x]? =w.heap[x]?)->OwnC w' d' v U' ->(p≠[]->d'.cells=[d'])->
  (∀x,U' x->T x->U x)->OwnC w' (D0.repl p d') V (λx=>(T x/\ ¬U x)∨U' x)
 | [],D0,d,V,T,h,hs=>by
   simp only[D.sub,Option.some.injEq]at hs;subst hs;exact⟨V,T,rfl,h,λ_ hx=>hx,λ_ _=>rfl,λw' d' U' _ ho _ _=>ho.mono (λx hx=>.inr hx)⟩
 |(z,i,o)::p,D0,d,V,T,h,hs=>by
  simp only[D.sub]at hs;split at hs
  ·rename_i c hc
   cases D0 with
   |sl z' xs=>
    have hc0:=hc;simp only[D.cellAt]at hc;split at hc
    ·rename_i hzz;subst hzz;split at hc
     ·rename_i x hx
      cases h with
      |flat hf _=>simp[D.flat]at hf
      |nil=>simp at hx
      | @row z xs b cap e cur T Us h1 h2 h3 h4 h5 h6 h7 h8 h9 h10 h11=>
        have hcell:=zee h9 hx hc;have ho:=(List.getElem?_eq_some_iff.1 hc).1;have hlt:=(List.getElem?_eq_some_iff.1 hcell).1;rw[zat h9]at hlt;have hcs:i*z+o<cur.size:=by rw[h2];exact Nat.lt_of_lt_of_le hlt (Nat.mul_le_mul_right _ h3)
        obtain⟨v,U,hp,hd,hU,hpf,hre⟩:=OwnC.focus (h11 _ _ hcell) hs;have hcw:w.cell? ⟨b,i*z+o,none⟩=some (cur.getD (i*z+o) undef):=h1.cell hcs;have hbU:¬U b:=λhb=>(h7 _ b (hU b hb)).2 rfl
        refine⟨v,U,⟨b,xs.length,cap,_,rfl,hcw,hp⟩,hd,λy hy=>(h7 _ y (hU y hy)).1,λw' hw' =>⟨b,xs.length,cap,_,rfl,(h1.frame (hw' b h6 hbU)).cell hcs,hpf w' (λx hx hn=>hw' x (h7 _ x hx).1 hn)⟩,λw' d' U' hheap hd' hone hcol=>?_⟩
        have hone':(c.repl p d').cells=[c.repl p d']:=by
         cases p with
         |nil=>exact hone (by simp)
         |cons q r=>
          cases c with
          |sl z2 ys=>exact zu4 rfl (hone (by simp))
          |_=>
           obtain⟨z2,i2,o2⟩:=q;simp[D.sub,D.cellAt]at hs
        have hcel:=ziu (x:=x) hone' ho;have hxz:x.cells.length=z:=h9 x (List.mem_of_getElem? hx)
        have erepl:(D.sl z xs).repl ((z,i,o)::p) d' =.sl z (xs.set i (x.withCells (x.cells.set o (c.repl p d')))):=by
         simp only[D.repl,hc0,D.setAt,hx,if_pos]
        rw[erepl];have hlen:(xs.set i (x.withCells (x.cells.set o (c.repl p d')))).length=xs.length:=by simp
        rw[<-hlen];have hin:=hre w' d' U' (λy hy hn=>hheap y (h7 _ y hy).1 hn) hd' (λ_=>hone (by simp)) (λy hy hm=>hcol y hy (h7 _ y hm).1)
        refine .row (λm y=>if m=i*z+o then((Us m y/\ ¬U y)∨U' y)else Us m y) (h1.frame (hheap b h6 hbU)) h2 (by rw[hlen];exact h3) h4 h5 (.inl ⟨h6,hbU⟩) ?_ ?_ ?_ ?_ ?_
        ·intro m y hy;split at hy
         ·rcases hy with hy|hy
          ·exact⟨.inl ⟨(h7 m y hy.1).1,hy.2⟩,(h7 m y hy.1).2⟩
          ·exact⟨.inr hy,λe=>hbU (e▸hcol y hy (e▸h6))⟩
         ·rename_i hm;exact⟨.inl ⟨(h7 m y hy).1,λhu=>hm (h8 _ _ y hy (hU y hu))⟩,(h7 m y hy).2⟩
        ·intro m m' y hy hy';by_cases e:m=i*z+o<;>by_cases e':m' =i*z+o
         ·omega
         ·rw[if_pos e]at hy;rw[if_neg e']at hy';rcases hy with hy|hy
          ·exact h8 m m' y hy.1 hy'
          ·have:=hU y (hcol y hy (h7 m' y hy').1);exact absurd (h8 _ _ y hy' this) e'
         ·rw[if_neg e]at hy;rw[if_pos e']at hy';rcases hy' with hy' |hy'
          ·exact h8 m m' y hy hy'.1
          ·have:=hU y (hcol y hy' (h7 m y hy).1);exact absurd (h8 _ _ y hy this) e
         ·rw[if_neg e]at hy;rw[if_neg e']at hy';exact h8 m m' y hy hy'
        ·exact zit h9 (by rw[hcel,List.length_set];exact hxz)
        ·intro m hm;rw[hlen]at hm;exact h10 m hm
        ·intro m dm hm;rw[zoy h9 hx ho hcel]at hm;by_cases e:m=i*z+o
         ·subst e;rw[List.getElem?_set_self (by rw[zat h9];exact hlt)]at hm
          obtain rfl:=Option.some.inj hm;refine hin.mono (λy hy=>?_)
          rw[if_pos rfl];exact hy
         ·rw[List.getElem?_set_ne (Ne.symm e)]at hm;refine((h11 m dm hm).frame (λy hy=>hheap y (h7 m y hy).1 (λhu=>e (h8 _ _ y hy (hU y hu))))).mono (λy hy=>?_)
          rw[if_neg e];exact hy
     ·cases hc
    ·cases hc
   |_=>simp[D.cellAt]at hc
  ·cases hs
end Go.Qz
namespace Go.Qz
def G.setSlot(g:G)(s:Slot)(Y:Blk):G:={g with S:=λs' =>if s' =s then Y else g.S s'}
theorem zal(g:G)(s:Slot)(Y:Blk):(g.setSlot s Y).S s=Y:=by simp[G.setSlot]
theorem zae(g:G){s s':Slot}(Y:Blk)(h:s' ≠s):(g.setSlot s Y).S s' =g.S s':=by simp[G.setSlot,h]
theorem znr(r:Root):zgm (A.turn r) (λl=>l.root≠r∨l.path=[]) (λ_=>True):=by
 intro a
 cases a with
 |view l=>
  by_cases h:l.root=r<;>cases hp:l.path<;>simp[A.turn,h,hp,A.okRefs]
 |eptr l z i o=>
  by_cases h:l.root=r<;>cases hp:l.path<;>simp[A.turn,h,hp,A.okRefs]
 |pview l i k=>
  by_cases h:l.root=r<;>cases hp:l.path<;>simp[A.turn,h,hp,A.okRefs]
 |_=>exact .inr ⟨rfl,by simp[A.okRefs]⟩
theorem zef{f:A->A}{F:Loc->Prop}{B:Nat->Prop}(h:zgm f F B):∀a d,f a=.own d->a=.own d:=by
 intro a d e;rcases h a with hd|⟨he,_⟩
 ·rw[hd]at e;cases e
 ·rw[<-he];exact e
theorem za9{env:Env}{f:A->A}(hf:∀a d,f a=.own d->a=.own d){r r':Root}{a:A}(hne:r' ≠r){d:D}(h:((env.mapA f).setRoot r a).root r' =.own d):env.root r' =.own d:=by
 cases r' with
 |tmp t' =>
  have e:((env.mapA f).setRoot r a).get t' =(env.get t').mapA f:=by
   cases r with
   |tmp t=>
    have:t' ≠t:=λe=>hne (by rw[e])
    simp[Env.setRoot,Env.get,Env.set0,Env.mapA,this]
   |cell b o=>
    simp only[Env.setRoot];split<;>rfl
  simp only[Env.root,e]at h ⊢
  cases hV:env.get t' with
  |one a0=>rw[hV]at h;simp only[V.mapA]at h;exact hf a0 d h
  |tup as=>rw[hV]at h;simp[V.mapA]at h
  |agg as=>rw[hV]at h;simp[V.mapA]at h
 |cell b' o' =>
  cases r with
  |tmp t=>exact h
  |cell b o=>
   simp only[Env.setRoot]at h
   cases hq:(env.mapA f).box b with
   |none=>rw[hq]at h;exact h
   |some cs=>
    rw[hq]at h;simp only[Env.root,Env.box,Env.setBox]at h ⊢;have hq':env.boxes b=some cs:=hq;by_cases e:b' =b
    ·subst e;have ho:o' ≠o:=λe=>hne (by rw[e])
     rw[if_pos rfl]at h;rw[hq'];simp only[List.getD_eq_getElem?_getD]at h ⊢;rwa [List.getElem?_set_ne (Ne.symm ho)]at h
    ·rw[if_neg e]at h;exact h
theorem za1{env:Env}{f:A->A}{r:Root}{a:A}(b:Nat):((env.mapA f).setRoot r a).box b=match r with
 | .tmp _=>env.box b
 | .cell b' o=>if b=b' then(env.box b').map λcs=>cs.set o a else env.box b:=by
 cases r with
 |tmp t=>rfl
 |cell b' o=>
  simp only[Env.setRoot]
  cases hq:(env.mapA f).box b' with
  |none=>
   have hq':env.box b' =none:=hq;simp only[hq',Option.map_none];split
   ·rename_i e;subst e;exact hq
   ·rfl
  |some cs=>
   have hq':env.box b' =some cs:=hq;simp only[hq',Option.map_some];rfl
theorem zaj{env:Env}{f:A->A}{r:Root}{a:A}(b:Nat):(((env.mapA f).setRoot r a).box b).isSome=(env.box b).isSome:=by
 rw[za1]
 cases r with
 |tmp t=>rfl
 |cell b' o=>
  simp only;split
  ·rename_i e;subst e;cases env.box b<;>rfl
  ·rfl
theorem zct{env:Env}{f:A->A}{r:Root}{a:A}:((env.mapA f).setRoot r a).size=env.size:=by
 cases r with
 |tmp t=>rfl
 |cell b' o=>
  simp only[Env.setRoot];split<;>rfl
theorem zbf{env:Env}{f:A->A}{r:Root}{a:A}(t:Nat):((env.mapA f).setRoot r a).get t=if r=.tmp t then .one a else(env.get t).mapA f:=by
 cases r with
 |tmp t' =>
  by_cases e:t=t'
  ·subst e;simp[Env.setRoot,Env.get,Env.set0]
  ·have:¬(Root.tmp t' =Root.tmp t):=λh=>e (by cases h;rfl)
   rw[if_neg this];simp[Env.setRoot,Env.get,Env.set0,Env.mapA,e]
 |cell b' o=>
  simp only[Env.setRoot];split<;>simp<;>rfl
theorem ziv{env:Env}{t:Nat}{D0:D}(h:env.root (.tmp t)=.own D0):env.get t=.one (.own D0):=by
 simp only[Env.root]at h;split at h
 ·rename_i a ha;rw[ha,h]
 ·cases h
theorem Sim.turn[Base]{g:G}{env:Env}{tm:Array Value}{w w':World}(h:Sim g env tm w){r:Root}{D0 D':D}(hr:env.root r=.own D0){V:Value}(hV:RootV g tm w r V)(S':Blk)(hown:OwnC w' D' V S')
 (hlen:∀z xs',D' =.sl z xs' -> ∃xs,D0=.sl z xs/\xs'.length<=xs.length) (hsize:w.heap.size<=w'.heap.size) (hheap:∀x,x<w.heap.size-> ¬g.S r.slot x->w'.heap[x]? =w.heap[x]?)
 (hS1:∀x s,S' x->g.S s x->s=r.slot) (hS2:∀x b,S' x->(env.box b).isSome=true->b<zab->g.β b≠x) (hS3:∀x,S' x->x<w'.heap.size) (hS4:∀x o v,S' x->g.c x o=some v->False):
 Sim (g.setSlot r.slot S') ((env.mapA (A.turn r)).setRoot r (.own D')) tm w':=by
 have hβ:∀b,(env.box b).isSome=true->b<zab->w'.heap[g.β b]? =w.heap[g.β b]?:=by
  intro b hb hlt;obtain⟨cs,hcs⟩:=Option.isSome_iff_exists.1 hb;have:=h.bx b cs hcs;unfold RepBox at this;rw[if_neg (by omega)]at this
  obtain⟨arr,e,h1,_⟩:=this;exact hheap _ (Array.getElem?_eq_some_iff.1 h1).1 (λhx=>h.sbox _ b _ hx hb hlt rfl)
 have hSw:∀s x,s≠r.slot->g.S s x->w'.heap[x]? =w.heap[x]?:=λs x hs hx=>hheap x (h.slt s x hx) (λhx' =>hs (h.sdis _ _ _ hx hx'))
 have hroot:∀r' D1,env.root r' =.own D1-> ∀W,RootV g tm w r' W->RootV (g.setSlot r.slot S') tm w' r' W:=by
  intro r' D1 hD W hW;have:=RootV.world hD hβ W hW;cases r' <;>exact this
 have hslot:∀r':Root,r' ≠r->r'.slot≠r.slot:=by
  intro r' hne e;cases r' <;>cases r<;>simp[Root.slot]at e<;>first|exact hne (by rw[e])|(obtain⟨e1,e2⟩:=e;exact hne (by rw[e1,e2]))
 have hrootr:((env.mapA (A.turn r)).setRoot r (.own D')).root r=.own D':=by
  cases r with
  |tmp t=>simp[Env.root,zbf]
  |cell b o=>
   simp only[Env.root,za1,if_pos];simp only[Env.root]at hr;split at hr
   ·rename_i cs hcs;rw[hcs];simp only[Option.map_some];rw[List.getD_eq_getElem?_getD]at hr ⊢
    have hlt:o<cs.length:=by
     rcases Nat.lt_or_ge o cs.length with hl|hl
     ·exact hl
     ·rw[List.getElem?_eq_none hl]at hr;cases hr
    rw[List.getElem?_set_self hlt];rfl
   ·cases hr
 have K:zcy g env tm w (g.setSlot r.slot S') ((env.mapA (A.turn r)).setRoot r (.own D')) tm w' (λl=>l.root≠r∨l.path=[]) (λ_=>True):=by
  refine⟨λ_ _ _ hx=>hx,λl hl d' hd' =>?_,λb _ hb _=>⟨by rw[zaj]at hb;exact hb,rfl⟩⟩
  by_cases hlr:l.root=r
  ·have hp:l.path=[]:=hl.resolve_left (λhn=>hn hlr)
   simp only[Env.ownAt,hlr,hrootr,hp,D.sub,Option.some.injEq]at hd';subst hd';refine⟨D0,by simp only[Env.ownAt,hlr,hr,hp,D.sub],hlen,λv hv=>?_⟩
   obtain⟨W,hW,hPW⟩:=hv;rw[hlr]at hW;exact⟨W,by rw[hlr];exact hroot r D0 hr W hW,by rw[hp]at hPW ⊢;exact hPW⟩
  ·have hd:env.ownAt l=some d':=by
    simp only[Env.ownAt]at hd' ⊢;split at hd'
    ·rename_i D1 hD1;rw[za9 (zef (znr r)) hlr hD1];exact hd'
    ·cases hd'
   refine⟨d',hd,λz xs' e=>⟨xs',e,Nat.le_refl _⟩,λv hv=>?_⟩
   have hl2:=hd;simp only[Env.ownAt]at hl2;split at hl2
   ·rename_i D1 hD1;exact h.conc hd (λW hW=>hroot _ D1 hD1 W hW) (λx hx=>hSw _ x (hslot _ hlr) hx) hv
   ·cases hl2
 refine{
  size:=by rw[zct];exact h.size
  tv:=λt=>?_
  bx:=λb cs hcs=>?_
  binj:=λb b' hb hb' =>by rw[zaj]at hb hb';exact h.binj b b' hb hb'
  sdis:=λs s' x hx hx' =>?_
  sbox:=λs b x hx hb hlt=>?_
  slt:=λs x hx=>?_
  cmem:=λb o v hv=>?_
  base:=h.base
  fix:=λx v hv=>(hheap x (World.block_lt_of_cell? w _ (h.cmem _ _ _ (h.base _ _ _ hv))) ((h.cdis x 0 v (h.base _ _ _ hv)).1 _)).trans (h.fix x v hv)
  cdis:=λb o v hv=>⟨λs hx=>?_,λid hid=>by rw[zaj]at hid;exact(h.cdis b o v hv).2 id hid⟩}
 ·rw[zbf];by_cases e:r=.tmp t
  ·rw[if_pos e];subst e;show OwnC w' D' (tm.getD t undef) ((g.setSlot (Slot.tmp t 0) S').S (.tmp t 0));rw[zal];have:tm.getD t undef=V:=hV;rw[this];exact hown
  ·rw[if_neg e];refine(h.tv t).kill K (znr r) (λk x hx=>?_)
   have hs:Slot.tmp t k≠r.slot:=by
    intro he
    cases r with
    |tmp t' =>simp only[Root.slot,Slot.tmp.injEq]at he;exact e (by rw[he.1])
    |cell b o=>cases he
   exact⟨by rw[zae g S' hs];exact hx,hSw _ x hs hx⟩
 ·-- the boxes
  have hb0:∀b0 cs0,env.box b0=some cs0->(∀o,r≠.cell b0 o)->RepBox (g.setSlot r.slot S') ((env.mapA (A.turn r)).setRoot r (.own D')) tm w' b0 cs0:=by
   intro b0 cs0 hcs0 hne
   have hs:∀o,Slot.cell b0 o≠r.slot:=by
    intro o he
    cases r with
    |tmp t' =>cases he
    |cell b' o' =>simp only[Root.slot,Slot.cell.injEq]at he;exact hne o' (by rw[he.1])
   exact(h.bx b0 cs0 hcs0).keep K (λo x hx=>⟨by rw[zae g S' (hs o)];exact hx,hSw _ x (hs o) hx⟩) (λhlt=>⟨rfl,hβ b0 (by rw[hcs0];rfl) hlt⟩) (λ_=>rfl)
  rw[za1]at hcs
  cases r with
  |tmp t=>exact hb0 b cs hcs (λo he=>by cases he)
  |cell b' o' =>
   simp only at hcs;by_cases e:b=b'
   ·subst e;rw[if_pos rfl]at hcs
    cases hq:env.box b with
    |none=>rw[hq]at hcs;cases hcs
    |some cs0=>
     rw[hq]at hcs;obtain rfl:=Option.some.inj hcs;have hold:=h.bx b cs0 hq;unfold RepBox at hold ⊢;by_cases hg:zab<=b
     ·rw[if_pos hg]at hold ⊢;obtain⟨a,rfl,_,_⟩:=hold
      have ho:o' =0:=by
       simp only[Env.root,hq]at hr
       cases o' with
       |zero=>rfl
       |succ n=>simp at hr
      subst ho;refine⟨.own D',rfl,rfl,?_⟩;show OwnC w' D' (g.γ b) ((g.setSlot (Slot.cell b 0) S').S (.cell b 0));rw[zal];have:g.γ b=V:=by simpa [RootV,hg]using hV
      rw[this];exact hown
     ·rw[if_neg hg]at hold ⊢;obtain⟨arr,et,h1,h2,h3⟩:=hold;refine⟨arr,et,(hβ b (by rw[hq];rfl) (by omega)).trans h1,by simpa using h2,λo a ha=>?_⟩
      by_cases eo:o=o'
      ·subst eo
       have hlt:o<cs0.length:=by
        have:=(List.getElem?_eq_some_iff.1 ha).1;simpa using this
       rw[List.getElem?_set_self hlt]at ha;obtain rfl:=Option.some.inj ha;obtain⟨_,hone,_⟩:=h3 o cs0[o] (List.getElem?_eq_getElem hlt);refine⟨rfl,hone,?_⟩;show OwnC w' D' (arr.getD o undef) ((g.setSlot (Slot.cell b o) S').S (.cell b o));rw[zal]
       have hVe:arr.getD o undef=V:=by
        have:=hV;simp only[RootV]at this;rw[if_neg hg]at this;simp[World.cell?,h1,h2,hlt]at this;simp[h2,hlt,this]
       rw[hVe];exact hown
      ·rw[List.getElem?_set_ne (Ne.symm eo)]at ha;obtain⟨hp,hone,hra⟩:=h3 o a ha;have hs:Slot.cell b o≠Slot.cell b o':=λhe=>eo (by cases he;rfl)
       exact⟨hp,hone,hra.keep K (zcq hp _ _) (λ_ _ x hx=>⟨by rw[show (Root.cell b o').slot=Slot.cell b o' from rfl,zae g S' hs];exact hx,hSw _ x hs hx⟩) (λ_=>⟨rfl,λb1 o1 hs1 _=>by cases hs1;exact⟨rfl,λt ⟨arr2,fz,ht⟩=>⟨arr2,fz,(hβ b (by rw[hq];rfl) (by omega)).trans ht⟩⟩⟩)⟩
   ·rw[if_neg e]at hcs;exact hb0 b cs hcs (λo he=>e (by cases he;rfl))
 ·by_cases e:s=r.slot<;>by_cases e':s' =r.slot
  ·rw[e,e']
  ·subst e;rw[zal]at hx;rw[zae g S' e']at hx';exact absurd (hS1 x s' hx hx') e'
  ·subst e';rw[zal]at hx';rw[zae g S' e]at hx;exact absurd (hS1 x s hx' hx) e
  ·rw[zae g S' e]at hx;rw[zae g S' e']at hx';exact h.sdis s s' x hx hx'
 ·rw[zaj]at hb;by_cases e:s=r.slot
  ·subst e;rw[zal]at hx;exact hS2 x b hx hb hlt
  ·rw[zae g S' e]at hx;exact h.sbox s b x hx hb hlt
 ·by_cases e:s=r.slot
  ·subst e;rw[zal]at hx;exact hS3 x hx
  ·rw[zae g S' e]at hx;exact Nat.lt_of_lt_of_le (h.slt s x hx) hsize
 ·have hc:=h.cmem b o v hv;have hlt:b<w.heap.size:=World.block_lt_of_cell? w _ hc;simp only[zbc]at hc ⊢;rw[World.cell?_of_block (w':=w') (w:=w) (hheap b hlt ((h.cdis b o v hv).1 _))];exact hc
 ·by_cases e:s=r.slot
  ·subst e;rw[zal]at hx;exact hS4 b o v hx hv
  ·rw[zae g S' e]at hx;exact(h.cdis b o v hv).1 s hx
theorem Sim.unroot[Base]{g:G}{env:Env}{tm:Array Value}{w:World}(h:Sim g env tm w){r:Root}{D0:D}(hr:env.root r=.own D0)(c':Mem)(hc:g.c.le c')(hc2:c'.le (zbc w))
 (hc3:∀b o v,c' b o=some v->g.c b o=some v∨g.S r.slot b) {f:A->A} (hfo:∀a d,f a=.own d->a=.own d) {a':A} (ha':∀d,a' ≠.own d) (hp:a'.portable=true)
 (hnew:∀V,RootV g tm w r V->OwnC w D0 V (g.S r.slot)->RepA {g.setSlot r.slot (λ_=>False)with c:=c'} ((env.mapA f).setRoot r a') tm w r.slot a' V)
 (hrep:zcy g env tm w {g.setSlot r.slot (λ_=>False)with c:=c'} ((env.mapA f).setRoot r a') tm w (λ_=>True) (λ_=>True)-> ∀t k a v,Slot.tmp t k≠r.slot->RepA g env tm w (.tmp t k) a v->
  RepA {g.setSlot r.slot (λ_=>False)with c:=c'} ((env.mapA f).setRoot r a') tm w (.tmp t k) (f a) v):
 Sim {g.setSlot r.slot (λ_=>False)with c:=c'} ((env.mapA f).setRoot r a') tm w:=by
 have hSo:∀s,s≠r.slot->({g.setSlot r.slot (λ_=>False)with c:=c'}:G).S s=g.S s:=λs hs=>zae g _ hs
 have hSx:∀s x,({g.setSlot r.slot (λ_=>False)with c:=c'}:G).S s x->s≠r.slot/\g.S s x:=by
  intro s x hx;by_cases e:s=r.slot
  ·subst e;have:(g.setSlot r.slot (λ_=>False)).S r.slot x:=hx
   rw[zal]at this;exact this.elim
  ·rw[hSo s e]at hx;exact⟨e,hx⟩
 have hrootr:∀d,((env.mapA f).setRoot r a').root r≠.own d:=by
  intro d hd
  cases r with
  |tmp t=>
   simp only[Env.root,zbf,if_pos]at hd;exact ha' d hd
  |cell b o=>
   simp only[Env.root,za1,if_pos]at hd
   cases hq:env.box b with
   |none=>rw[hq]at hd;cases hd
   |some cs=>
    rw[hq]at hd;simp only[Option.map_some,List.getD_eq_getElem?_getD]at hd;rcases Nat.lt_or_ge o cs.length with hl|hl
    ·rw[List.getElem?_set_self hl]at hd;exact ha' d hd
    ·rw[List.getElem?_eq_none (by simpa using hl)]at hd;cases hd
 have K:zcy g env tm w {g.setSlot r.slot (λ_=>False)with c:=c'} ((env.mapA f).setRoot r a') tm w (λ_=>True) (λ_=>True):=by
  refine⟨hc,λl _ d' hd' =>?_,λb _ hb _=>⟨by rw[zaj]at hb;exact hb,rfl⟩⟩
  have hd:env.ownAt l=some d':=by
   simp only[Env.ownAt]at hd' ⊢;split at hd'
   ·rename_i D1 hD1;by_cases hlr:l.root=r
    ·rw[hlr]at hD1;exact absurd hD1 (hrootr D1)
    ·rw[za9 hfo hlr hD1];exact hd'
   ·cases hd'
  refine⟨d',hd,λz xs' e=>⟨xs',e,Nat.le_refl _⟩,λv hv=>?_⟩
  have hroot:∀W,RootV g tm w l.root W->RootV ({g.setSlot r.slot (λ_=>False)with c:=c'}:G) tm w l.root W:=by
   intro W hW
   cases hq:l.root with
   |tmp t=>rw[hq]at hW;exact hW
   |cell b o=>rw[hq]at hW;exact hW
  exact h.conc hd hroot (λ_ _=>rfl) hv
 refine{
  size:=by rw[zct];exact h.size
  tv:=λt=>?_
  bx:=λb cs hcs=>?_
  binj:=λb b' hb hb' =>by rw[zaj]at hb hb';exact h.binj b b' hb hb'
  sdis:=λs s' x hx hx' =>h.sdis s s' x (hSx s x hx).2 (hSx s' x hx').2
  sbox:=λs b x hx hb hlt=>by rw[zaj]at hb;exact h.sbox s b x (hSx s x hx).2 hb hlt
  slt:=λs x hx=>h.slt s x (hSx s x hx).2
  cmem:=hc2
  base:=λb o v hv=>hc _ _ _ (h.base b o v hv)
  fix:=h.fix
  cdis:=λb o v hv=>?_}
 ·rw[zbf];by_cases e:r=.tmp t
  ·rw[if_pos e];subst e;obtain⟨V,hV,ho⟩:=h.rootOwn hr;have:=hnew V hV ho;have e2:tm.getD t undef=V:=hV;rw[e2];exact this
  ·rw[if_neg e]
   have hs:∀k,Slot.tmp t k≠r.slot:=by
    intro k he
    cases r with
    |tmp t' =>simp only[Root.slot,Slot.tmp.injEq]at he;exact e (by rw[he.1])
    |cell b o=>cases he
   have ht:=h.tv t
   cases hq:env.get t with
   |one a=>rw[hq]at ht;exact hrep K t 0 a _ (hs 0) ht
   |tup as=>
    rw[hq]at ht;obtain⟨vs,he,hsz,hk⟩:=ht;refine⟨vs,he,by simp[hsz],λk a ha=>?_⟩
    rw[List.getElem?_map]at ha
    cases hq2:as[k]? with
    |none=>rw[hq2]at ha;cases ha
    |some a0=>rw[hq2]at ha;obtain rfl:=Option.some.inj ha;exact hrep K t k a0 _ (hs k) (hk k a0 hq2)
   |agg as=>
    rw[hq]at ht;obtain⟨vs,he,hsz,hk⟩:=ht;refine⟨vs,he,by simp[hsz],λk a ha=>?_⟩
    rw[List.getElem?_map]at ha
    cases hq2:as[k]? with
    |none=>rw[hq2]at ha;cases ha
    |some a0=>rw[hq2]at ha;obtain rfl:=Option.some.inj ha;exact⟨(hk k a0 hq2).1,hrep K t k a0 _ (hs k) (hk k a0 hq2).2⟩
 ·have hb0:∀b0 cs0,env.box b0=some cs0->(∀o,r≠.cell b0 o)->RepBox ({g.setSlot r.slot (λ_=>False)with c:=c'}:G) ((env.mapA f).setRoot r a') tm w b0 cs0:=by
   intro b0 cs0 hcs0 hne
   have hs:∀o,Slot.cell b0 o≠r.slot:=by
    intro o he
    cases r with
    |tmp t' =>cases he
    |cell b' o' =>simp only[Root.slot,Slot.cell.injEq]at he;exact hne o' (by rw[he.1])
   exact(h.bx b0 cs0 hcs0).keep K (λo x hx=>⟨by rw[hSo _ (hs o)];exact hx,rfl⟩) (λ_=>⟨rfl,rfl⟩) (λ_=>rfl)
  rw[za1]at hcs
  cases r with
  |tmp t=>exact hb0 b cs hcs (λo he=>by cases he)
  |cell b' o' =>
   simp only at hcs;by_cases e:b=b'
   ·subst e;rw[if_pos rfl]at hcs
    cases hq:env.box b with
    |none=>rw[hq]at hcs;cases hcs
    |some cs0=>
     rw[hq]at hcs;obtain rfl:=Option.some.inj hcs;obtain⟨V,hV,ho⟩:=h.rootOwn hr;have hn:=hnew V hV ho;have hold:=h.bx b cs0 hq;unfold RepBox at hold ⊢;by_cases hg:zab<=b
     ·rw[if_pos hg]at hold ⊢;obtain⟨a,rfl,_,_⟩:=hold
      have ho':o' =0:=by
       simp only[Env.root,hq]at hr
       cases o' with
       |zero=>rfl
       |succ n=>simp at hr
      subst ho';refine⟨a',rfl,hp,?_⟩;have e2:g.γ b=V:=by simpa [RootV,hg]using hV
      show RepA _ _ tm w (.cell b 0) a' (g.γ b);rw[e2];exact hn
     ·rw[if_neg hg]at hold ⊢;obtain⟨arr,et,h1,h2,h3⟩:=hold;refine⟨arr,et,h1,by simpa using h2,λo a ha=>?_⟩
      by_cases eo:o=o'
      ·subst eo
       have hlt:o<cs0.length:=by
        have:=(List.getElem?_eq_some_iff.1 ha).1;simpa using this
       rw[List.getElem?_set_self hlt]at ha;obtain rfl:=Option.some.inj ha;obtain⟨_,hone,_⟩:=h3 o cs0[o] (List.getElem?_eq_getElem hlt);refine⟨hp,hone,?_⟩
       have hVe:arr.getD o undef=V:=by
        have:=hV;simp only[RootV]at this;rw[if_neg hg]at this;simp[World.cell?,h1,h2,hlt]at this;simp[h2,hlt,this]
       rw[hVe];exact hn
      ·rw[List.getElem?_set_ne (Ne.symm eo)]at ha;obtain⟨hp2,hone,hra⟩:=h3 o a ha;have hs:Slot.cell b o≠Slot.cell b o':=λhe=>eo (by cases he;rfl)
       exact⟨hp2,hone,hra.keep K (zcq hp2 _ _) (λ_ _ x hx=>⟨by rw[hSo _ hs];exact hx,rfl⟩) (λ_=>⟨rfl,λ_ _ _ _=>⟨rfl,λ_ h=>h⟩⟩)⟩
   ·rw[if_neg e]at hcs;exact hb0 b cs hcs (λo he=>e (by cases he;rfl))
 ·refine⟨λs hx=>?_,λid hid hlt=>?_⟩
  ·obtain⟨hne,hs⟩:=hSx s b hx;rcases hc3 b o v hv with h1|h1
   ·exact(h.cdis b o v h1).1 s hs
   ·exact hne (h.sdis _ _ _ hs h1)
  ·rw[zaj]at hid;rcases hc3 b o v hv with h1|h1
   ·exact(h.cdis b o v h1).2 id hid hlt
   ·exact h.sbox _ id b h1 hid hlt
theorem Sim.emptied[Base]{g:G}{env:Env}{tm:Array Value}{w:World}(h:Sim g env tm w){r:Root}{D0:D}(hr:env.root r=.own D0):
 Sim (g.setSlot r.slot (λ_=>False)) (env.setRoot r .dead) tm w:=by
 have e1:env.mapA id=env:=by
  cases env;simp only[Env.mapA,Env.mk.injEq,true_and,and_true];funext t;exact zln _
 have:=h.unroot hr g.c (λ_ _ _ hx=>hx) h.cmem (λ_ _ _ hx=>.inl hx) (f:=id) (λ_ _ e=>e) (a':=.dead) (λ_ e=>by cases e) rfl (λ_ _ _=>trivial)
  (λK t k a v hs ha=>RepA.keep K (by cases a<;>simp[A.okRefs]) (λ_ _ x hx=>⟨by rw[show ({g.setSlot r.slot (λ_=>False)with c:=g.c}:G)=g.setSlot r.slot (λ_=>False)from rfl,zae g _ hs];exact hx,rfl⟩) (λ_=>⟨rfl,λb o e=>by cases e⟩) ha)
 rw[e1]at this;exact this
end Go.Qz
namespace Go.Qz
open Classical
theorem Sim.frozen[Base]{g:G}{env:Env}{tm:Array Value}{w:World}(h:Sim g env tm w)(r:Root):
 ∃g',Sim g' (env.freeze r) tm w/\g'.β=g.β/\g'.γ=g.γ/\g.c.le g'.c/\(∀s x,g'.S s x->g.S s x)/\(∀b o v,g'.c b o=some v->g.c b o=some v∨ ∃s,g.S s b):=by
 cases hr:env.root r with
 |own D0=>
  have e1:env.freeze r=(env.mapA (A.thaw env r)).setRoot r (.ro D0):=by simp only[Env.freeze,hr]
  rw[e1]
  have hcell:∀b o v,g.S r.slot b->w.cell? ⟨b,o,none⟩=some v->(λb o=>if g.S r.slot b then zbc w b o else g.c b o:Mem) b o=some v:=by
   intro b o v hb hv;simp only[if_pos hb];exact hv
  have hc:g.c.le (λb o=>if g.S r.slot b then zbc w b o else g.c b o):=by
   intro b o v hv;have hn:=(h.cdis b o v hv).1 r.slot;simp only[if_neg hn];exact hv
  have key:=h.unroot hr (λb o=>if g.S r.slot b then zbc w b o else g.c b o) hc
   (λb o v hv=>by
    dsimp only at hv;split at hv
    ·exact hv
    ·exact h.cmem b o v hv)
   (λb o v hv=>by
    split at hv
    ·rename_i hb;exact .inr hb
    ·exact .inl hv)
   (f:=A.thaw env r) (λa d e=>by
    cases a with
    |view l=>
     simp only[A.thaw]at e;split at e
     ·split at e<;>cases e
     ·cases e
    |eptr l z i o=>simp only[A.thaw]at e;split at e<;>cases e
    |pview l i k=>simp only[A.thaw]at e;split at e<;>cases e
    |_=>first|exact e|cases e)
   (a':=.ro D0) (λd e=>by cases e) rfl
   (λV hV ho=>ho.toRO (λb o u hb hu=>hcell b o u hb hu))
   (λK t k a v hs ha=>by
    have hok:∀a:A,RepA g env tm w (.tmp t k) a v->RepA _ _ tm w (.tmp t k) a v:=λa ha=>RepA.keep K (by cases a<;>simp[A.okRefs]) (λ_ _ x hx=>⟨by
     show (g.setSlot r.slot (λ_=>False)).S _ _
     rw[zae g _ hs];exact hx,rfl⟩) (λ_=>⟨rfl,λb o e=>by cases e⟩) ha
    cases a with
    |view l=>
     simp only[A.thaw];split
     ·rename_i hl
      cases hd:env.ownAt l with
      |none=>trivial
      |some d=>
       obtain⟨v',U,hcv,ho,hU,_⟩:=h.ownAt hd;have hv:=ha d hd;obtain rfl:=hv.det hcv;exact ho.toRO (λb o u hb hu=>hcell b o u (by rw[<-hl];exact hU b hb) hu)
     ·exact hok _ ha
    |eptr l z i o=>
     simp only[A.thaw];split
     ·trivial
     ·exact hok _ ha
    |pview l i k=>
     simp only[A.thaw];split
     ·trivial
     ·exact hok _ ha
    |_=>exact hok _ ha)
  refine⟨_,key,rfl,rfl,hc,λs x hx=>?_,λb o v hv=>?_⟩
  ·have hx':(g.setSlot r.slot (λ_=>False)).S s x:=hx
   by_cases e:s=r.slot
   ·subst e;rw[zal]at hx';exact hx'.elim
   ·rwa [zae g _ e]at hx'
  ·dsimp only at hv;split at hv
   ·rename_i hb;exact .inr ⟨_,hb⟩
   ·exact .inl hv
 |_=>
  have e1:env.freeze r=env:=by simp only[Env.freeze,hr]
  rw[e1];exact⟨g,h,rfl,rfl,λ_ _ _ hx=>hx,λ_ _ hx=>hx,λ_ _ _ hv=>.inl hv⟩
def HoldA(g:G)(env:Env)(tm:Array Value)(w:World)(Y:Blk):A->Value->Prop
 | .own d,v=>OwnC w d v Y
 | .selfp,_=>False
 | .bnil _,_=>False
 |a,v=>RepA g env tm w (.tmp 0 0) a v
def HoldV(g:G)(env:Env)(tm:Array Value)(w:World)(Y:Nat->Blk):V->Value->Prop
 | .one a,v=>HoldA g env tm w (Y 0) a v
 | .tup as,v=> ∃vs:Array Value,v=.tuple vs/\vs.size=as.length/\ ∀k a,as[k]? =some a->HoldA g env tm w (Y k) a (vs.getD k undef)
 | .agg as,v=> ∃vs:Array Value,v=.agg vs/\vs.size=as.length/\ ∀k a,as[k]? =some a->(vs.getD k undef).oneCell' =true/\HoldA g env tm w (Y k) a (vs.getD k undef)
structure Free(g:G)(env:Env)(w:World)(Y:Nat->Blk):Prop where
 one:∀k k' x,Y k x->Y k' x->k=k'
 S:∀k s x,Y k x->g.S s x->False
 box:∀k x b,Y k x->(env.box b).isSome=true->b<zab->g.β b≠x
 lt:∀k x,Y k x->x<w.heap.size
 c:∀k x o v,Y k x->g.c x o=some v->False
theorem zaw(g:G)(env:Env)(w:World):Free g env w (λ_ _=>False):=⟨λ_ _ _ h=>h.elim,λ_ _ _ h=>h.elim,λ_ _ _ h=>h.elim,λ_ _ h=>h.elim,λ_ _ _ _ h=>h.elim⟩
theorem HoldA.rep{g:G}{env:Env}{tm:Array Value}{w:World}{Y:Nat->Blk}{t k:Nat}{a:A}{v:Value}(h:HoldA g env tm w (Y k) a v):RepA (g.setS t Y) env tm w (.tmp t k) a v:=by
 have K:zcy g env tm w (g.setS t Y) env tm w (λ_=>True) (λ_=>True):=⟨λ_ _ _ hx=>hx,λl _ d' hd' =>⟨d',hd',λz xs' e=>⟨xs',e,Nat.le_refl _⟩,λv hv=>by
  obtain⟨V,hV,hp⟩:=hv;refine⟨V,?_,hp⟩
  cases hq:l.root with
  |tmp t=>rw[hq]at hV;exact hV
  |cell b o=>rw[hq]at hV;exact hV⟩,λb _ hb _=>⟨hb,rfl⟩⟩
 cases a with
 |own d=>
  show OwnC w d v ((g.setS t Y).S (.tmp t k));rw[zp6];exact h
 |selfp=>exact False.elim h
 |bnil t=>exact False.elim h
 |_=>exact RepA.keep (s:=.tmp 0 0) K (by simp[A.okRefs]) (λd e=>by cases e) (λe=>by simp[A.isSelf]at e) h
theorem HoldV.rep{g:G}{env:Env}{tm:Array Value}{w:World}{Y:Nat->Blk}{t:Nat}{V:V}{v:Value}(h:HoldV g env tm w Y V v):RepV (g.setS t Y) env tm w t V v:=by
 cases V with
 |one a=>exact HoldA.rep h
 |tup as=>obtain⟨vs,e,hs,hk⟩:=h;exact⟨vs,e,hs,λk a ha=>HoldA.rep (hk k a ha)⟩
 |agg as=>obtain⟨vs,e,hs,hk⟩:=h;exact⟨vs,e,hs,λk a ha=>⟨(hk k a ha).1,HoldA.rep (hk k a ha).2⟩⟩
theorem Sim.putHeld[Base]{g:G}{env:Env}{tm:Array Value}{w:World}(h:Sim g env tm w){t:Nat}(ht:t<env.size){V':V}{v':Value}{Y:Nat->Blk}(hv:HoldV g env tm w Y V' v')(hf:Free g env w Y):
 Sim (g.setS t Y) (env.set t V') (tm.setIfInBounds t v') w:=
 h.put (Nat.lt_of_lt_of_le ht h.size) Y hv.rep hf.one (λk s x hy hs=>(hf.S k s x hy hs).elim) hf.box hf.lt hf.c
theorem HoldA.keep{g g':G}{env env':Env}{tm tm':Array Value}{w w':World}{F:Loc->Prop}{B:Nat->Prop}(K:zcy g env tm w g' env' tm' w' F B){Y Y':Blk}{a:A}{v:Value}(hr:a.okRefs F B)
 (hown:∀x,Y x->Y' x/\w'.heap[x]? =w.heap[x]?) (h:HoldA g env tm w Y a v):HoldA g' env' tm' w' Y' a v:=by
 cases a with
 |own d=>exact(OwnC.frame h (λx hx=>(hown x hx).2)).mono (λx hx=>(hown x hx).1)
 |selfp=>exact False.elim h
 |bnil t=>exact False.elim h
 |dead=>trivial
 |_=>exact RepA.keep (s:=.tmp 0 0) (s':=.tmp 0 0) K hr (λd e=>by cases e) (λe=>by simp[A.isSelf]at e) h
theorem Sim.vacate[Base]{g:G}{env:Env}{tm:Array Value}{w:World}(h:Sim g env tm w){l:Loc}{d:D}(hl:env.ownAt l=some d):
 ∃g' v U,Sim g' (env.vacate l) tm w/\ConcV g tm w l v/\OwnC w d v U/\(l.path≠[]->v.oneCell' =true)/\g'.c=g.c/\g'.β=g.β/\g'.γ=g.γ/\(∀s x,g'.S s x->g.S s x/\ ¬U x)/\(∀x,U x->g.S l.root.slot x):=by
 have hl2:=hl;simp only[Env.ownAt]at hl2;split at hl2
 ·rename_i D0 hD;obtain⟨V,hV,ho⟩:=h.rootOwn hD
  cases hp:l.path with
  |nil=>
   rw[hp]at hl2;simp only[D.sub,Option.some.injEq]at hl2;subst hl2;have e1:env.vacate l=env.setRoot l.root .dead:=by simp only[Env.vacate,hp]
   rw[e1];refine⟨_,V,g.S l.root.slot,h.emptied hD,⟨V,hV,by rw[hp];rfl⟩,ho,λhn=>absurd rfl hn,rfl,rfl,rfl,λs x hx=>?_,λx hx=>hx⟩
   by_cases e:s=l.root.slot
   ·subst e;rw[zal]at hx;exact hx.elim
   ·rw[zae g _ e]at hx;exact⟨hx,λhx' =>e (h.sdis _ _ _ hx hx')⟩
  |cons q p=>
   have hne:l.path≠[]:=by rw[hp];simp
   obtain⟨v,U,hpv,hod,hU,_,hre⟩:=ho.focus hl2
   have hone:v.oneCell' =true:=by
    obtain⟨v',U',hp',_,_,_,h1⟩:=ho.access hl2;obtain rfl:=hpv.det hp';exact h1 hne
   have e1:env.vacate l=(env.mapA (A.turn l.root)).setRoot l.root (.own (D0.repl l.path .hole)):=by
    simp only[Env.vacate,hp,Env.setLoc,hD]
   rw[e1];have hnew:=hre w .hole (λ_=>False) (λ_ _ _=>rfl) (.hole hone) (λ_=>rfl) (λ_ hx=>hx.elim)
   have hlen:∀z xs',D0.repl l.path .hole=.sl z xs' -> ∃xs,D0=.sl z xs/\xs'.length<=xs.length:=by
    intro z xs' e;obtain⟨z1,i1,o1⟩:=q;rw[hp]at e hl2;simp only[D.repl]at e;split at e
    ·rename_i c hc
     cases D0 with
     |sl z2 ys=>
      simp only[D.setAt]at e;split at e
      ·split at e
       ·cases e;exact⟨ys,rfl,by simp⟩
       ·cases e;exact⟨_,rfl,Nat.le_refl _⟩
      ·cases e;exact⟨_,rfl,Nat.le_refl _⟩
     |_=>simp[D.cellAt]at hc
    ·exact⟨xs',e,Nat.le_refl _⟩
   have hS':∀x,((g.S l.root.slot x/\ ¬U x)∨False)->g.S l.root.slot x:=λx hx=>hx.elim (λh=>h.1) (λh=>h.elim)
   refine⟨_,v,U,h.turn hD hV _ hnew hlen (Nat.le_refl _) (λ_ _ _=>rfl) (λx s hx hs=>h.sdis _ _ _ hs (hS' x hx)) (λx b hx hb hlt=>h.sbox _ b x (hS' x hx) hb hlt) (λx hx=>h.slt _ x (hS' x hx))
    (λx o v hx hv=>(h.cdis x o v hv).1 _ (hS' x hx)),⟨V,hV,hpv⟩,hod,λ_=>hone,rfl,rfl,rfl,λs x hx=>?_,hU⟩
   by_cases e:s=l.root.slot
   ·subst e;rw[zal]at hx;exact hx.elim id (λh=>h.elim)
   ·rw[zae g _ e]at hx;exact⟨hx,λhx' =>e (h.sdis _ _ _ hx (hU x hx'))⟩
 ·cases hl2
end Go.Qz
namespace Go.Qz
theorem zhr{v:Value}{d:D}(h:zc5 v=some d)(c:Mem):RO c d v:=by
 unfold zc5 at h;split at h<;>first|(cases h;done)|(obtain rfl:=Option.some.inj h;constructor)
structure FreeB(g:G)(env:Env)(w:World)(Y:Blk):Prop where
 S:∀s x,Y x->g.S s x->False
 box:∀x b,Y x->(env.box b).isSome=true->b<zab->g.β b≠x
 lt:∀x,Y x->x<w.heap.size
 c:∀x o v,Y x->g.c x o=some v->False
theorem zcu(g:G)(env:Env)(w:World):FreeB g env w (λ_=>False):=⟨λ_ _ h=>h.elim,λ_ _ h=>h.elim,λ_ h=>h.elim,λ_ _ _ h=>h.elim⟩
theorem FreeB.free{g:G}{env:Env}{w:World}{Y:Blk}(h:FreeB g env w Y):Free g env w (λk=>if k=0 then Y else λ_=>False):=by
 refine⟨λk k' x hy hy' =>?_,λk s x hy hs=>?_,λk x b hy=>?_,λk x hy=>?_,λk x o v hy=>?_⟩
 ·by_cases e:k=0<;>by_cases e':k' =0<;>simp[e,e']at hy hy' ⊢
 all_goals by_cases e:k=0<;>simp[e]at hy
 ·exact h.S s x hy hs
 ·exact h.box x b hy
 ·exact h.lt x hy
 ·exact h.c x o v hy
structure Left(g:G)(env:Env)(g':G)(env':Env):Prop where
 c:g'.c=g.c
 β:g'.β=g.β
 γ:g'.γ=g.γ
 S:∀s x,g'.S s x->g.S s x
 size:env'.size=env.size
 box:∀b,(env'.box b).isSome=(env.box b).isSome
theorem Left.refl(g:G)(env:Env):Left g env g env:=⟨rfl,rfl,rfl,λ_ _ h=>h,rfl,λ_=>rfl⟩
theorem Left.trans{g g1 g2:G}{e e1 e2:Env}(h:Left g e g1 e1)(k:Left g1 e1 g2 e2):Left g e g2 e2:=
 ⟨k.c.trans h.c,k.β.trans h.β,k.γ.trans h.γ,λs x hx=>h.S s x (k.S s x hx),k.size.trans h.size,λb=>(k.box b).trans (h.box b)⟩
theorem ziw(env:Env):env.mapA id=env:=by
 cases env;simp only[Env.mapA,Env.mk.injEq,true_and,and_true];funext t;exact zln _
theorem zp7(env:Env)(r:Root)(a:A):(env.setRoot r a).size=env.size:=by
 have:=zct (env:=env) (f:=id) (r:=r) (a:=a);rwa [ziw]at this
theorem zsx(env:Env)(r:Root)(a:A)(b:Nat):((env.setRoot r a).box b).isSome=(env.box b).isSome:=by
 have:=zaj (env:=env) (f:=id) (r:=r) (a:=a) b;rwa [ziw]at this
theorem zsy(env:Env)(l:Loc)(d:D):(env.setLoc l d).size=env.size:=by
 unfold Env.setLoc;split
 ·exact zct
 ·rfl
theorem zfa(env:Env)(l:Loc)(d:D)(b:Nat):((env.setLoc l d).box b).isSome=(env.box b).isSome:=by
 unfold Env.setLoc;split
 ·exact zaj b
 ·rfl
theorem zsz(env:Env)(l:Loc):(env.vacate l).size=env.size:=by
 unfold Env.vacate;split
 ·exact zp7 _ _ _
 ·exact zsy _ _ _
theorem zns(env:Env)(l:Loc)(b:Nat):((env.vacate l).box b).isSome=(env.box b).isSome:=by
 unfold Env.vacate;split
 ·exact zsx _ _ _ b
 ·exact zfa _ _ _ b
theorem HoldA.port{g g':G}{env env':Env}{tm tm':Array Value}{w w':World}{Y:Blk}{a:A}{v:Value}(hp:a.portable=true)(hc:g.c.le g'.c)(hY:∀x,Y x->w'.heap[x]? =w.heap[x]?)(h:HoldA g env tm w Y a v):HoldA g' env' tm' w' Y a v:=by
 cases a with
 |own d=>exact OwnC.frame h hY
 |ro d=>exact RO.mono hc h
 |undef=>exact h
 |dead=>trivial
 |selfp=>exact False.elim h
 |bnil t=>exact False.elim h
 |fn f caps=>
  cases caps with
  |nil=>obtain⟨vs,e,hs,_⟩:=h;exact⟨vs,e,hs,λk c hc=>by simp at hc⟩
  |cons c r=>simp[A.portable]at hp
 |view l=>simp[A.portable]at hp
 |ptr b o=>simp[A.portable]at hp
 |eptr l z i o=>simp[A.portable]at hp
 |pview l i k=>simp[A.portable]at hp
 |rptr ds=>simp[A.portable]at hp
theorem Sim.vacateLeft[Base]{g:G}{env:Env}{tm:Array Value}{w:World}(h:Sim g env tm w){l:Loc}{d:D}(hl:env.ownAt l=some d):
 ∃g' v U,Sim g' (env.vacate l) tm w/\ConcV g tm w l v/\OwnC w d v U/\(l.path≠[]->v.oneCell' =true)/\Left g env g' (env.vacate l)/\FreeB g' (env.vacate l) w U/\ ∀x,U x-> ∃s,g.S s x:=by
 obtain⟨g',v,U,h1,h2,h3,h4,h5,h6,h7,h8,h9⟩:=h.vacate hl;refine⟨g',v,U,h1,h2,h3,h4,⟨h5,h6,h7,λs x hx=>(h8 s x hx).1,zsz _ _,zns _ _⟩,⟨λs x hu hs=>(h8 s x hs).2 hu,λx b hu hb hlt=>?_,λx hu=>h.slt _ x (h9 x hu),λx o v hu hv=>?_⟩,λx hx=>⟨_,h9 x hx⟩⟩
 ·rw[zns]at hb;rw[h6];exact h.sbox _ b x (h9 x hu) hb hlt
 ·rw[h5]at hv;exact(h.cdis x o v hv).1 _ (h9 x hu)
theorem zzd(a:Option Addr)(z k cap:Nat):Value.slice (if cap=0 then a else a.map (·.add (0*z))) (k-0) (cap-0)=.slice a k cap:=by
 have e0:a.map (·.add (0*z))=a:=by
  rw[Nat.zero_mul]
  cases a with
  |none=>rfl
  |some p=>simp[Addr.add]
 rw[e0,ite_self,Nat.sub_zero,Nat.sub_zero]
theorem zlo[Base]{g:G}{env env':Env}{tm:Array Value}{w:World}(h:Sim g env tm w){t k:Nat}{a a':A}{v:Value}(ha:RepA g env tm w (.tmp t k) a v)(hno:∀d,a≠.own d)(ht:zez env a=some (a',env')):
 ∃g' Y,Sim g' env' tm w/\HoldA g' env' tm w Y a' v/\Left g env g' env' /\FreeB g' env' w Y/\ ∀x,Y x-> ∃s,g.S s x:=by
 cases a with
 |own d=>exact absurd rfl (hno d)
 |dead=>cases ht
 |view l=>
  simp only[zez]at ht;split at ht
  ·rename_i d hd;simp only[Option.some.injEq,Prod.mk.injEq]at ht;obtain⟨rfl,rfl⟩:=ht;obtain⟨g',v',U,h1,h2,h3,_,h4,h5,h6⟩:=h.vacateLeft hd;obtain rfl:=(ha d hd).det h2;exact⟨g',U,h1,h3,h4,h5,h6⟩
  ·cases ht
 |selfp=>obtain⟨b,o,e,_⟩:=ha;cases e
 |bnil t=>obtain⟨_,b,o,e,_⟩:=ha;cases e
 |ro d=>
  simp only[zez,Option.some.injEq,Prod.mk.injEq]at ht;obtain⟨rfl,rfl⟩:=ht;exact⟨g,λ_=>False,h,ha,Left.refl g env,zcu g env w,λ_ hx=>hx.elim⟩
 |ptr b o=>
  simp only[zez,Option.some.injEq,Prod.mk.injEq]at ht;obtain⟨rfl,rfl⟩:=ht;exact⟨g,λ_=>False,h,ha,Left.refl g env,zcu g env w,λ_ hx=>hx.elim⟩
 |eptr l z i o=>
  simp only[zez,Option.some.injEq,Prod.mk.injEq]at ht;obtain⟨rfl,rfl⟩:=ht;exact⟨g,λ_=>False,h,ha,Left.refl g env,zcu g env w,λ_ hx=>hx.elim⟩
 |pview l i k=>
  simp only[zez]at ht;split at ht
  ·rename_i z xs hd;split at ht
   ·rename_i hk;obtain⟨rfl,hk⟩:=hk;simp only[Option.some.injEq,Prod.mk.injEq]at ht;obtain⟨rfl,rfl⟩:=ht;obtain⟨g',v',U,h1,h2,h3,_,h4,h5,h6⟩:=h.vacateLeft hd;obtain⟨a,n,cap,hc,rfl⟩:=ha z xs hd hk;obtain rfl:=hc.det h2;rw[zzd];exact⟨g',U,h1,h3.take hk,h4,h5,h6⟩
   ·cases ht
  ·cases ht
 |rptr ds=>
  simp only[zez,Option.some.injEq,Prod.mk.injEq]at ht;obtain⟨rfl,rfl⟩:=ht;exact⟨g,λ_=>False,h,ha,Left.refl g env,zcu g env w,λ_ hx=>hx.elim⟩
 |fn f caps=>
  simp only[zez,Option.some.injEq,Prod.mk.injEq]at ht;obtain⟨rfl,rfl⟩:=ht;exact⟨g,λ_=>False,h,ha,Left.refl g env,zcu g env w,λ_ hx=>hx.elim⟩
 |undef=>
  simp only[zez,Option.some.injEq,Prod.mk.injEq]at ht;obtain⟨rfl,rfl⟩:=ht;exact⟨g,λ_=>False,h,ha,Left.refl g env,zcu g env w,λ_ hx=>hx.elim⟩
theorem Sim.forget[Base]{g:G}{env:Env}{tm:Array Value}{w:World}(h:Sim g env tm w)(t:Nat):Sim (g.setS t (λ_ _=>False)) (env.set0 t .dead) tm w:=by
 have hSx:∀s x,(g.setS t (λ_ _=>False)).S s x->(∀k,s≠.tmp t k)/\g.S s x:=by
  intro s x hx;rcases zbk g t _ hx with⟨k,_,hf⟩|hx
  ·exact hf.elim
  ·exact hx
 have K:zcy g env tm w (g.setS t (λ_ _=>False)) (env.set0 t .dead) tm w (λ_=>True) (λ_=>True):=by
  refine⟨λ_ _ _ hx=>hx,λl _ d' hd' =>?_,λb _ hb _=>⟨hb,rfl⟩⟩
  have hd:env.ownAt l=some d':=by
   cases l with
   |mk root path=>
    cases root with
    |tmp t' =>
     by_cases e:t' =t
     ·subst e;simp[Env.ownAt,Env.root,Env.get,Env.set0,V.dead]at hd'
     ·simpa [Env.ownAt,Env.root,Env.get,Env.set0,e]using hd'
    |cell b o=>exact hd'
  refine⟨d',hd,λz xs' e=>⟨xs',e,Nat.le_refl _⟩,λv hv=>?_⟩
  obtain⟨V,hV,hp⟩:=hv;refine⟨V,?_,hp⟩
  cases hq:l.root with
  |tmp t=>rw[hq]at hV;exact hV
  |cell b o=>rw[hq]at hV;exact hV
 refine{
  size:=h.size
  tv:=λt' =>?_
  bx:=λb cs hcs=>(h.bx b cs hcs).keep K (λo x hx=>⟨hx,rfl⟩) (λ_=>⟨rfl,rfl⟩) (λ_=>rfl)
  binj:=h.binj
  sdis:=λs s' x hx hx' =>h.sdis s s' x (hSx s x hx).2 (hSx s' x hx').2
  sbox:=λs b x hx=>h.sbox s b x (hSx s x hx).2
  slt:=λs x hx=>h.slt s x (hSx s x hx).2
  cmem:=h.cmem
  base:=h.base
  fix:=h.fix
  cdis:=λb o v hv=>⟨λs hx=>(h.cdis b o v hv).1 s (hSx s b hx).2,(h.cdis b o v hv).2⟩}
 by_cases e:t' =t
 ·subst e;have:(env.set0 t' .dead).get t' =.dead:=by simp[Env.get,Env.set0]
  rw[this];trivial
 ·have:(env.set0 t .dead).get t' =env.get t':=by simp[Env.get,Env.set0,e]
  rw[this];exact(h.tv t').keep K (λk x hx=>⟨by rw[zjo g k _ e];exact hx,rfl⟩)
theorem zze{env env':Env}{a a':A}(ht:zez env a=some (a',env'))(hr:a.atRoot=true){l:Loc}{d:D}(hl:env'.ownAt l=some d):env.ownAt l=some d:=by
 cases a with
 |view l0=>
  simp only[zez]at ht;split at ht
  ·rename_i d0 hd0;simp only[Option.some.injEq,Prod.mk.injEq]at ht;obtain⟨_,rfl⟩:=ht;have hp:l0.path=[]:=by simpa [A.atRoot]using hr
   simp only[Env.vacate,hp]at hl;simp only[Env.ownAt]at hl ⊢;split at hl
   ·rename_i D hD;have e1:env.setRoot l0.root .dead=(env.mapA id).setRoot l0.root .dead:=by rw[ziw]
    by_cases hne:l.root=l0.root
    ·rw[hne]at hD;have:=root_setRoot_same env l0.root .dead D hD;cases this
    ·rw[e1]at hD;rw[za9 (f:=id) (λ_ _ h=>h) hne hD]
     exact hl
   ·cases hl
  ·cases ht
 |pview l0 i k=>
  simp only[zez]at ht;split at ht
  ·rename_i z xs hd0;split at ht
   ·simp only[Option.some.injEq,Prod.mk.injEq]at ht;obtain⟨_,rfl⟩:=ht;have hp:l0.path=[]:=by simpa [A.atRoot]using hr
    simp only[Env.vacate,hp]at hl;simp only[Env.ownAt]at hl ⊢;split at hl
    ·rename_i D hD;have e1:env.setRoot l0.root .dead=(env.mapA id).setRoot l0.root .dead:=by rw[ziw]
     by_cases hne:l.root=l0.root
     ·rw[hne]at hD;have:=root_setRoot_same env l0.root .dead D hD;cases this
     ·rw[e1]at hD;rw[za9 (f:=id) (λ_ _ h=>h) hne hD]
      exact hl
    ·cases hl
   ·cases ht
  ·cases ht
 |dead=>cases ht
 |_=>
  simp only[zez,Option.some.injEq,Prod.mk.injEq]at ht;obtain⟨_,rfl⟩:=ht;exact hl
where
 root_setRoot_same (env:Env) (r:Root) (a:A) (D:D) (h:(env.setRoot r a).root r=.own D):a=.own D:=by
  cases r with
  |tmp t=>simpa [Env.setRoot,Env.root,Env.get,Env.set0]using h
  |cell b o=>
   cases hb:env.boxes b with
   |none=>simp[Env.setRoot,Env.root,Env.box,hb]at h
   |some cs=>
    simp only[Env.setRoot,Env.box,hb,Env.root,Env.setBox,if_true]at h;rw[List.getD_eq_getElem?_getD]at h;by_cases ho:o<cs.length
    ·rw[List.getElem?_set_self ho]at h;exact h
    ·rw[List.getElem?_eq_none (by simpa using ho)]at h;cases h
theorem Left.keeps{g g':G}{env env':Env}{tm:Array Value}{w:World}(h:Left g env g' env')(hown:∀l d,env'.ownAt l=some d->env.ownAt l=some d):zcy g env tm w g' env' tm w (λ_=>True) (λ_=>True):=by
 refine⟨by rw[h.c];exact λ_ _ _ hx=>hx,λl _ d' hd' =>⟨d',hown l d' hd',λz xs' e=>⟨xs',e,Nat.le_refl _⟩,λv hv=>?_⟩,λb _ hb _=>⟨by rw[<-h.box b];exact hb,by rw[h.β]⟩⟩
 obtain⟨V,hV,hp⟩:=hv;refine⟨V,?_,hp⟩
 cases hq:l.root with
 |tmp t=>rw[hq]at hV;exact hV
 |cell b o=>
  rw[hq]at hV;simp only[RootV]at hV ⊢;rw[h.β,h.γ];exact hV
theorem zg9[Base]{tm:Array Value}{w:World}:∀{as as':List A} {g:G} {env env':Env} {t n:Nat} {vs:Nat->Value} {Z:Nat->Blk},Sim g env tm w->
 (∀k a,as[k]? =some a->(∃d,a=.own d/\OwnC w d (vs k) (Z k))∨((∀d,a≠.own d)/\RepA g env tm w (.tmp t (n+k)) a (vs k)))->Free g env w Z->zga env as=some (as',env')->
 ∃g' Y,Sim g' env' tm w/\as'.length=as.length/\(∀k a',as'[k]? =some a' ->a'.portable=true/\HoldA g' env' tm w (Y k) a' (vs k))/\Left g env g' env' /\Free g' env' w Y/\ ∀k x,Y k x->(∃s,g.S s x)∨Z k x
 | [],as',g,env,env',t,n,vs,Z,h,_,_,ht=>by
   simp only[zga,Option.some.injEq,Prod.mk.injEq]at ht;obtain⟨rfl,rfl⟩:=ht;exact⟨g,λ_ _=>False,h,rfl,λk a' ha=>by simp at ha,Left.refl g env,zaw g env w,λ_ _ hx=>hx.elim⟩
 |a::r,as',g,env,env',t,n,vs,Z,h,hrep,hZ,ht=>by
  simp only[zga]at ht;split at ht
  ·rename_i a' env1 h1;split at ht
   ·rename_i hport;rw[Bool.and_eq_true]at hport;split at ht
    ·rename_i r' env2 h2;simp only[Option.some.injEq,Prod.mk.injEq]at ht;obtain⟨rfl,rfl⟩:=ht
     obtain⟨g1,Y0,hs1,hh1,hl1,hf1,hfrom⟩:∃g1 Y0,Sim g1 env1 tm w/\HoldA g1 env1 tm w Y0 a' (vs 0)/\Left g env g1 env1/\FreeB g1 env1 w Y0/\(∀x,Y0 x->((∃s,g.S s x)∨Z 0 x)):=by
      rcases hrep 0 a rfl with⟨d,rfl,ho⟩|⟨hno,hr⟩
      ·simp only[zez,Option.some.injEq,Prod.mk.injEq]at h1;obtain⟨rfl,rfl⟩:=h1;exact⟨g,Z 0,h,ho,Left.refl g env,⟨hZ.S 0,hZ.box 0,hZ.lt 0,hZ.c 0⟩,λx hx=>.inr hx⟩
      ·obtain⟨g1,Y0,k1,k2,k3,k4,k5⟩:=zlo h hr hno h1;exact⟨g1,Y0,k1,k2,k3,k4,λx hx=>.inl (k5 x hx)⟩
     have K:=hl1.keeps (tm:=tm) (w:=w) (λl d=>zze h1 hport.1)
     have hrep1:∀k a,r[k]? =some a->(∃d,a=.own d/\OwnC w d (vs (k+1)) (Z (k+1)))∨((∀d,a≠.own d)/\RepA g1 env1 tm w (.tmp t (n+1+k)) a (vs (k+1))):=by
      intro k a hk;rcases hrep (k+1) a (by simpa using hk)with hl|⟨hno,hr⟩
      ·exact .inl hl
      ·refine .inr ⟨hno,?_⟩
       have hr':RepA g env tm w (.tmp t (n+1+k)) a (vs (k+1)):=by
        have e:n+(k+1)=n+1+k:=by omega
        rwa [e]at hr
       exact hr'.keep K (by cases a<;>simp[A.okRefs]) (λd e=>absurd e (hno d)) (λ_=>⟨rfl,λb o e=>by cases e⟩)
     have hZ1:Free g1 env1 w (λk=>Z (k+1)):=
      ⟨λk k' x hx hx' =>by have:=hZ.one (k+1) (k' +1) x hx hx';omega,λk s x hx hs=>hZ.S (k+1) s x hx (hl1.S s x hs),λk x b hx hb hlt=>by rw[hl1.β];exact hZ.box (k+1) x b hx (by rw[<-hl1.box b];exact hb) hlt,
       λk x hx=>hZ.lt (k+1) x hx,λk x o v hx hv=>hZ.c (k+1) x o v hx (by rw[<-hl1.c];exact hv)⟩
     obtain⟨g2,Y,hs2,hlen,hh2,hl2,hf2,hfrom2⟩:=zg9 (n:=n+1) (vs:=λk=>vs (k+1)) hs1 hrep1 hZ1 h2
     have hdis:∀k x,Y k x->Y0 x->False:=by
      intro k x hx hx0;rcases hfrom2 k x hx with⟨s,hs⟩|hz
      ·exact hf1.S s x hx0 hs
      ·rcases hrep 0 a rfl with⟨d,rfl,_⟩|⟨hno,hr⟩
       ·rcases hfrom x hx0 with⟨s,hs⟩|hz0
        ·exact hZ.S (k+1) s x hz hs
        ·have:=hZ.one _ _ x hz hz0;omega
       ·rcases hfrom x hx0 with⟨s,hs⟩|hz0
        ·exact hZ.S (k+1) s x hz hs
        ·have:=hZ.one _ _ x hz hz0;omega
     refine⟨g2,λk=>match k with|0=>Y0|k+1=>Y k,hs2,by simp[hlen],λk a'' ha=>?_,hl1.trans hl2,⟨?_,?_,?_,?_,?_⟩,?_⟩
     ·cases k with
      |zero=>
       simp only[List.getElem?_cons_zero,Option.some.injEq]at ha;subst ha;exact⟨hport.2,hh1.port hport.2 (by rw[hl2.c];exact λ_ _ _ hx=>hx) (λ_ _=>rfl)⟩
      |succ k=>exact hh2 k a'' (by simpa using ha)
     ·intro k k' x hx hx'
      cases k with
      |zero=>
       cases k' with
       |zero=>rfl
       |succ k' =>exact(hdis k' x hx' hx).elim
      |succ k=>
       cases k' with
       |zero=>exact(hdis k x hx hx').elim
       |succ k' =>rw[hf2.one k k' x hx hx']
     ·intro k s x hx hs
      cases k with
      |zero=>exact hf1.S s x hx (hl2.S s x hs)
      |succ k=>exact hf2.S k s x hx hs
     ·intro k x b hx hb hlt
      cases k with
      |zero=>rw[hl2.β];exact hf1.box x b hx (by rw[<-hl2.box b];exact hb) hlt
      |succ k=>exact hf2.box k x b hx hb hlt
     ·intro k x hx
      cases k with
      |zero=>exact hf1.lt x hx
      |succ k=>exact hf2.lt k x hx
     ·intro k x o v hx hv
      cases k with
      |zero=>exact hf1.c x o v hx (by rw[<-hl2.c];exact hv)
      |succ k=>exact hf2.c k x o v hx hv
     ·intro k x hx
      cases k with
      |zero=>exact hfrom x hx
      |succ k=>
       rcases hfrom2 k x hx with⟨s,hs⟩|hz
       ·exact .inl ⟨s,hl1.S s x hs⟩
       ·exact .inr hz
    ·cases ht
   ·cases ht
  ·cases ht
end Go.Qz
namespace Go.Qz
def Mine(g:G)(env:Env)(x:Nat):Prop:=(∃s,g.S s x)∨ ∃b,(env.box b).isSome=true/\b<zab/\g.β b=x
structure Next(g:G)(env:Env)(w:World)(g':G)(env':Env)(w':World):Prop where
 os:w'.os=w.os
 tape:w'.tape=w.tape
 output:w'.output=w.output
 size:w.heap.size<=w'.heap.size
 old:∀x,x<w.heap.size-> ¬Mine g env x->w'.heap[x]? =w.heap[x]?
 mine:∀x,Mine g' env' x->Mine g env x∨w.heap.size<=x
 c:g.c.le g'.c
 cnew:∀b o v,g'.c b o=some v->g.c b o=some v∨Mine g env b∨w.heap.size<=b
 lent:∀b,zaq<=b->g'.β b=g.β b/\g'.γ b=g.γ b
theorem Next.refl(g:G)(env:Env)(w:World):Next g env w g env w:=
 ⟨rfl,rfl,rfl,Nat.le_refl _,λ_ _ _=>rfl,λ_ h=>.inl h,λ_ _ _ h=>h,λ_ _ _ h=>.inl h,λ_ _=>⟨rfl,rfl⟩⟩
theorem Next.trans{g g1 g2:G}{e e1 e2:Env}{w w1 w2:World}(h:Next g e w g1 e1 w1)(k:Next g1 e1 w1 g2 e2 w2):Next g e w g2 e2 w2 where
 os:=k.os.trans h.os
 tape:=k.tape.trans h.tape
 output:=k.output.trans h.output
 size:=Nat.le_trans h.size k.size
 old:=λx hx hm=>by
  rw[k.old x (Nat.lt_of_lt_of_le hx h.size) (λhm1=>(h.mine x hm1).elim hm (λhle=>by omega)),h.old x hx hm]
 mine:=λx hx=>(k.mine x hx).elim (h.mine x) (λhle=>.inr (Nat.le_trans h.size hle))
 c:=λb o v hv=>k.c _ _ _ (h.c _ _ _ hv)
 cnew:=λb o v hv=>by
  rcases k.cnew b o v hv with h1|h1|h1
  ·exact h.cnew b o v h1
  ·exact .inr (h.mine b h1)
  ·exact .inr (.inr (Nat.le_trans h.size h1))
 lent:=λb hb=>⟨(k.lent b hb).1.trans (h.lent b hb).1,(k.lent b hb).2.trans (h.lent b hb).2⟩
theorem Left.mine{g g':G}{e e':Env}(h:Left g e g' e'){x:Nat}(hx:Mine g' e' x):Mine g e x:=by
 rcases hx with⟨s,hs⟩|⟨b,hb,hlt,hx⟩
 ·exact .inl ⟨s,h.S s x hs⟩
 ·exact .inr ⟨b,by rw[<-h.box b];exact hb,hlt,by rw[<-h.β];exact hx⟩
theorem Left.next{g g':G}{e e':Env}(h:Left g e g' e')(w:World):Next g e w g' e' w:=
 ⟨rfl,rfl,rfl,Nat.le_refl _,λ_ _ _=>rfl,λ_ hx=>.inl (h.mine hx),by rw[h.c];exact λ_ _ _ hx=>hx,λ_ _ _ hv=>.inl (by rw[<-h.c];exact hv),λb _=>⟨by rw[h.β],by rw[h.γ]⟩⟩
def Holds[Base](g:G)(e:Env)(tm:Array Value)(w:World)(V:V)(v:Value)(e':Env)(w':World):Prop:=
 ∃g' Y,Sim g' e' tm w' /\HoldV g' e' tm w' Y V v/\Free g' e' w' Y/\Next g e w g' e' w' /\ ∀k x,Y k x->Mine g e x∨w.heap.size<=x
def Goes[Base](g:G)(e:Env)(w:World)(e':Env)(tm':Array Value)(w':World):Prop:=∃g',Sim g' e' tm' w' /\Next g e w g' e' w'
theorem Goes.refl[Base]{g:G}{e:Env}{tm:Array Value}{w:World}(h:Sim g e tm w):Goes g e w e tm w:=⟨g,h,Next.refl g e w⟩
theorem zs0(e:Env)(t:Nat)(V:V)(b:Nat):(e.set t V).box b=e.box b:=by
 cases V with
 |one a=>cases a<;>rfl
 |_=>rfl
def putT(tm:Array Value)(dst:Option Nat)(v:Value):Array Value:=match dst with
 |some d=>tm.setIfInBounds d v
 |none=>tm
theorem zha(a:Act)(dst:Option Nat)(v:Value):(a.put dst v).tmps=putT a.tmps dst v:=by cases dst<;>rfl
theorem zd1(a:Act)(dst:Option Nat)(v:Value):(a.put dst v).defers=a.defers:=by cases dst<;>rfl
theorem Holds.put[Base]{g:G}{e e' e'':Env}{tm:Array Value}{w w':World}{V:V}{v:Value}(h:Holds g e tm w V v e' w'){dst:Option Nat}(hd:zap e' dst V=some e''):
 Goes g e w e'' (putT tm dst v) w':=by
 obtain⟨g',Y,hs,hv,hf,hn,hY⟩:=h
 cases dst with
 |none=>
  simp only[zap,Option.some.injEq]at hd;subst hd;exact⟨g',hs,hn⟩
 |some d=>
  simp only[zap]at hd;split at hd
  ·rename_i hlt;simp only[Option.some.injEq]at hd;subst hd;refine⟨_,hs.putHeld hlt hv hf,hn.os,hn.tape,hn.output,hn.size,hn.old,λx hx=>?_,hn.c,hn.cnew,hn.lent⟩
   rcases hx with⟨s,hs'⟩|⟨b,hb,hlt',hx⟩
   ·rcases zbk _ _ _ hs' with⟨k,_,hy⟩|⟨_,hs''⟩
    ·exact hY k x hy
    ·exact hn.mine x (.inl ⟨s,hs''⟩)
   ·rw[zs0]at hb;exact hn.mine x (.inr ⟨b,hb,hlt',hx⟩)
  ·cases hd
theorem Holds.plain[Base]{g:G}{e:Env}{tm:Array Value}{w:World}(h:Sim g e tm w){V:V}{v:Value}(hv:HoldV g e tm w (λ_ _=>False) V v):Holds g e tm w V v e w:=
 ⟨g,λ_ _=>False,h,hv,zaw g e w,Next.refl g e w,λ_ _ hx=>hx.elim⟩
theorem Sim.data[Base]{g:G}{e:Env}{tm:Array Value}{w:World}(h:Sim g e tm w){s:Slot}{a:A}{v:Value}{d:D}(ha:RepA g e tm w s a v)(hd:a.data e=some d):RO (zbc w) d v:=by
 cases a with
 |ro d' =>
  simp only[A.data,Option.some.injEq]at hd;subst hd;exact RO.mono h.cmem ha
 |own d' =>
  simp only[A.data,Option.some.injEq]at hd;subst hd;exact OwnC.toRO ha (λb o u _ hu=>hu)
 |view l=>
  simp only[A.data]at hd;obtain⟨v',U,hv',ho,_⟩:=h.ownAt hd;obtain rfl:=(ha d hd).det hv';exact ho.toRO (λb o u _ hu=>hu)
 |_=>cases hd
theorem zlp{e:Env}:∀{as:List A} {ds:List D},datas e as=some ds->ds.length=as.length/\ ∀(k:Nat) (d:D),ds[k]? =some d-> ∃a,as[k]? =some a/\a.data e=some d
 | [],ds,h=>by
   simp only[datas,Option.some.injEq]at h;subst h;exact⟨rfl,λk d hd=>by simp at hd⟩
 |a::r,ds,h=>by
  simp only[datas]at h;split at h
  ·rename_i d hd;split at h
   ·rename_i ds' hds;simp only[Option.some.injEq]at h;subst h;obtain⟨h1,h2⟩:=zlp hds;refine⟨by simp[h1],λk d' hk=>?_⟩
    cases k with
    |zero=>
     simp only[List.getElem?_cons_zero,Option.some.injEq]at hk;subst hk;exact⟨a,rfl,hd⟩
    |succ k=>
     obtain⟨a',h3,h4⟩:=h2 k d' (by simpa using hk)
     exact⟨a',by simpa using h3,h4⟩
   ·cases h
  ·cases h
theorem Sim.vdata[Base]{g:G}{e:Env}{tm:Array Value}{w:World}(h:Sim g e tm w){t:Nat}{d:D}(hd:(e.get t).data e=some d):RO (zbc w) d (tm.getD t undef):=by
 have ht:=h.tv t
 cases hV:e.get t with
 |one a=>
  rw[hV]at ht hd;exact h.data ht hd
 |tup as=>rw[hV]at hd;cases hd
 |agg as=>
  rw[hV]at ht hd;obtain⟨vs,e1,hs,hk⟩:=ht;rw[e1];simp only[V.data]at hd;split at hd
  ·rename_i ds hds;simp only[Option.some.injEq]at hd;subst hd;obtain⟨hl,hg⟩:=zlp hds;refine .agg (by rw[hs,hl]) (λm hm=>?_) (λm d hm=>?_)
   ·have:m<as.length:=by omega
    exact(hk m _ (List.getElem?_eq_getElem this)).1
   ·obtain⟨a,h1,h2⟩:=hg m d hm;exact h.data (hk m a h1).2 h2
  ·cases hd
theorem zgn{P:Program}{ty:TypeId}{v:Value}{a:A}(h:zf4 P ty v=some a):(∃d,a=.ro d/\ ∀c,RO c d v)∨ ∃z,a=.own (.sl z [])/\v=.slice none 0 0:=by
 unfold zf4 at h;split at h
 ·split at h
  ·simp only[Option.some.injEq]at h;exact .inr ⟨_,h.symm,rfl⟩
  ·cases h
 ·split at h
  ·rename_i d hd;simp only[Option.some.injEq]at h;exact .inl ⟨d,h.symm,λc=>zhr hd c⟩
  ·cases h
theorem Sim.rd[Base]{g:G}{e:Env}{a:Act}{w:World}(h:Sim g e a.tmps w){P:Program}{ty:TypeId}{x:Operand}{d:D}(hd:rd P e ty x=some d):RO (zbc w) d (a.eval x):=by
 cases x with
 |tmp t=>exact h.vdata hd
 |const v=>
  simp only[Qz.rd]at hd;split at hd
  ·rename_i a' ha;rcases zgn ha with⟨d',rfl,hr⟩|⟨z,rfl,rfl⟩
   ·simp only[A.data,Option.some.injEq]at hd;subst hd;exact hr _
   ·simp only[A.data,Option.some.injEq]at hd;subst hd;exact .sl0
  ·cases hd
 |global g=>cases hd
 |func f=>cases hd
theorem zb3[Base]{g:G}{e e':Env}{a:Act}{w:World}(h:Sim g e a.tmps w){P:Program}{ty:TypeId}{x:Operand}{V:V}(ht:take P e ty x=some (V,e')):
 Holds g e a.tmps w V (a.eval x) e' w:=by
 have one:∀{g':G} {e':Env} {V:A} {v:Value} {Y:Blk},Sim g' e' a.tmps w->HoldA g' e' a.tmps w Y V v->Left g e g' e' ->FreeB g' e' w Y->(∀x,Y x-> ∃s,g.S s x)->Holds g e a.tmps w (.one V) v e' w:=by
  intro g' e' V v Y hs hh hl hf hY
  exact⟨g',_,hs,(by simpa [HoldV]using hh:HoldV g' e' a.tmps w (λk=>if k=0 then Y else λ_=>False) (.one V) v),hf.free,hl.next w,λk x hx=>by
   by_cases hk:k=0
   ·rw[if_pos hk]at hx;exact .inl (.inl (hY x hx))
   ·rw[if_neg hk]at hx;exact hx.elim⟩
 cases x with
 |tmp t=>
  have htv:=h.tv t
  have parts:∀{as:List A} {as':List A} {vs:Array Value},vs.size=as.length->(∀k a',as[k]? =some a' ->RepA g e a.tmps w (.tmp t k) a' (vs.getD k undef))->zga (e.set0 t .dead) as=some (as',e')->
   ∃g' Y,Sim g' e' a.tmps w/\as'.length=as.length/\(∀k a',as'[k]? =some a' ->HoldA g' e' a.tmps w (Y k) a' (vs.getD k undef))/\Free g' e' w Y/\Next g e w g' e' w/\ ∀k x,Y k x->Mine g e x:=by
   intro as as' vs hs hk htk;have h0:=h.forget t
   have hS0:∀s x,(g.setS t (λ_ _=>False)).S s x->(∀k,s≠.tmp t k)/\g.S s x:=by
    intro s x hx;rcases zbk g t _ hx with⟨k,_,hf⟩|hx
    ·exact hf.elim
    ·exact hx
   have hl0:Left g e (g.setS t (λ_ _=>False)) (e.set0 t .dead):=⟨rfl,rfl,rfl,λs x hx=>(hS0 s x hx).2,rfl,λ_=>rfl⟩
   have K:=hl0.keeps (tm:=a.tmps) (w:=w) (λl d hl=>by
    cases l with
    |mk root path=>
     cases root with
     |tmp t' =>
      by_cases e1:t' =t
      ·subst e1;simp[Env.ownAt,Env.root,Env.get,Env.set0,Qz.V.dead]at hl
      ·simpa [Env.ownAt,Env.root,Env.get,Env.set0,e1]using hl
     |cell b o=>exact hl)
   obtain⟨g',Y,h1,h2,h3,h4,h5,h6⟩:=zg9 (t:=t) (n:=0) (vs:=λk=>vs.getD k undef) (Z:=λk=>g.S (.tmp t k)) h0 (λk a' ha=>by
    cases a' with
    |own d=>exact .inl ⟨d,rfl,hk k _ ha⟩
    |_=>
     refine .inr ⟨λd e=>(by cases e),?_⟩
     have:=hk k _ ha
     exact RepA.keep (s':=.tmp t (0+k)) K (by simp[A.okRefs]) (λd e=>by cases e) (λ_=>⟨by rw[Nat.zero_add],λb o e=>by cases e⟩) this)
    ⟨λk k' x hx hx' =>by have:=h.sdis _ _ x hx hx';cases this;rfl,λk s x hx hs=>(hS0 s x hs).1 k (h.sdis _ _ x (hS0 s x hs).2 hx),λk x b hx hb hlt=>h.sbox _ b x hx hb hlt,λk x hx=>h.slt _ x hx,λk x o v hx hv=>(h.cdis x o v hv).1 _ hx⟩ htk
   exact⟨g',Y,h1,h2,λk a' ha=>(h3 k a' ha).2,h5,(hl0.trans h4).next w,λk x hx=>by
    rcases h6 k x hx with⟨s,hs⟩|hz
    ·exact .inl ⟨s,(hS0 s x hs).2⟩
    ·exact .inl ⟨_,hz⟩⟩
  simp only[take]at ht;split at ht
  ·rename_i d hd;simp only[Option.some.injEq,Prod.mk.injEq]at ht;obtain⟨rfl,rfl⟩:=ht;have hown:e.ownAt ⟨.tmp t,[]⟩=some d:=by simp[Env.ownAt,Env.root,hd,D.sub]
   obtain⟨g',v,U,h1,h2,h3,_,h4,h5,h6⟩:=h.vacateLeft hown
   have:v=a.eval (.tmp t):=by
    obtain⟨V,hV,hp⟩:=h2;have hV':a.tmps.getD t undef=V:=hV;have hp':V=v:=hp;rw[<-hp',<-hV'];rfl
   rw[<-this];exact one h1 h3 h4 h5 h6
  ·rename_i a' hd ha;split at ht
   ·rename_i a2 e2 h2;simp only[Option.some.injEq,Prod.mk.injEq]at ht;obtain⟨rfl,rfl⟩:=ht;rw[ha]at htv;obtain⟨g',Y,h1,h3,h4,h5,h6⟩:=zlo (k:=0) h htv (λd e=>hd d e) h2
    exact one h1 h3 h4 h5 h6
   ·cases ht
  ·rename_i as hV;split at ht
   ·rename_i as' e2 h2;simp only[Option.some.injEq,Prod.mk.injEq]at ht;obtain⟨rfl,rfl⟩:=ht;rw[hV]at htv;obtain⟨vs,e1,hs,hk⟩:=htv;obtain⟨g',Y,h1,hl,h3,h4,h5,h6⟩:=parts hs hk h2;exact⟨g',Y,h1,⟨vs,e1,by rw[hs,hl],h3⟩,h4,h5,λk x hx=>.inl (h6 k x hx)⟩
   ·cases ht
  ·rename_i as hV;split at ht
   ·rename_i as' e2 h2;simp only[Option.some.injEq,Prod.mk.injEq]at ht;obtain⟨rfl,rfl⟩:=ht;rw[hV]at htv;obtain⟨vs,e1,hs,hk⟩:=htv;obtain⟨g',Y,h1,hl,h3,h4,h5,h6⟩:=parts hs (λk a' ha=>(hk k a' ha).2) h2
    exact⟨g',Y,h1,⟨vs,e1,by rw[hs,hl],λk a' ha=>⟨by
     have:k<as.length:=by rw[<-hl];exact(List.getElem?_eq_some_iff.1 ha).1
     exact(hk k _ (List.getElem?_eq_getElem this)).1,h3 k a' ha⟩⟩,h4,h5,λk x hx=>.inl (h6 k x hx)⟩
   ·cases ht
 |const v=>
  simp only[take]at ht;split at ht
  ·rename_i a' ha;simp only[Option.some.injEq,Prod.mk.injEq]at ht;obtain⟨rfl,rfl⟩:=ht;refine Holds.plain h ?_;rcases zgn ha with⟨d',rfl,hr⟩|⟨z,rfl,rfl⟩
   ·exact hr _
   ·exact .nil
  ·cases ht
 |func f=>
  simp only[take,Option.some.injEq,Prod.mk.injEq]at ht;obtain⟨rfl,rfl⟩:=ht;exact Holds.plain h ⟨#[],rfl,rfl,λk c hc=>by simp at hc⟩
 |global g=>cases ht
end Go.Qz
namespace Go.Qz
theorem zzf{r r':Root}(h:r' ≠r):r'.slot≠r.slot:=by
 intro e;cases r' <;>cases r<;>simp[Root.slot]at e<;>first|exact h (by rw[e])|(obtain⟨e1,e2⟩:=e;exact h (by rw[e1,e2]))
theorem zca(w:World)(a:Addr)(v:Value)(x:Nat)(h:x≠a.block):(w.setCell a v).heap[x]? =w.heap[x]?:=by
 simp[World.setCell,Array.getElem?_modify,Ne.symm h]
theorem zcb(w:World)(a:Addr)(v:Value):(w.setCell a v).heap.size=w.heap.size:=by simp[World.setCell]
theorem zh5(w:World)(b o:Nat)(v:Value){cur:Array Value}{e:TypeId}{fz:Nat×Nat}(h:w.heap[b]? =some (.cells cur e fz)):(w.setCell ⟨b,o,none⟩ v).heap[b]? =some (.cells (cur.setIfInBounds o v) e fz):=by
 simp[World.setCell,Array.getElem?_modify,h]
theorem TagAt.setCell{w:World}{x:Nat}{t:TypeId}(h:TagAt w x t)(a:Addr)(v:Value):TagAt (w.setCell a v) x t:=by
 obtain⟨arr,fz,h⟩:=h;by_cases e:x=a.block
 ·subst e;exact⟨_,fz,by simp[World.setCell,Array.getElem?_modify,h];rfl⟩
 ·exact⟨arr,fz,by rw[zca w a v x e];exact h⟩
theorem getD_setIf(cur:Array Value)(m k:Nat)(u:Value)(hk:k<cur.size):(cur.setIfInBounds k u).getD m undef=if m=k then u else cur.getD m undef:=by
 by_cases h:m=k
 ·subst h;simp[Array.getD_eq_getD_getElem?,hk]
 ·rw[if_neg h];simp[Array.getD_eq_getD_getElem?,Array.getElem?_setIfInBounds_ne (Ne.symm h)]
theorem HoldA.cell{g g':G}{env env':Env}{tm tm':Array Value}{w w':World}{Y:Blk}{b o:Nat}{a:A}{v:Value}(hp:a.portable=true)(hc:g.c.le g'.c)(hS:∀x,Y x->g'.S (.cell b o) x)(hY:∀x,Y x->w'.heap[x]? =w.heap[x]?)
 (h:HoldA g env tm w Y a v):RepA g' env' tm' w' (.cell b o) a v:=by
 have h':=h.port (g':=g') (env':=env') (tm':=tm') (w':=w') hp hc hY
 cases a with
 |own d=>exact OwnC.mono hS h'
 |selfp=>exact False.elim h
 |bnil t=>exact False.elim h
 |fn f caps=>
  cases caps with
  |nil=>obtain⟨vs,e,hs,_⟩:=h';exact⟨vs,e,hs,λk c hc=>by simp at hc⟩
  |cons c r=>simp[A.portable]at hp
 |view l=>simp[A.portable]at hp
 |ptr b o=>simp[A.portable]at hp
 |eptr l z i o=>simp[A.portable]at hp
 |pview l i k=>simp[A.portable]at hp
 |rptr ds=>simp[A.portable]at hp
 |ro d=>exact h'
 |undef=>exact h'
 |dead=>trivial
def zh6(e:Env)(b o:Nat)(a:A):Env:=(match a with
    | .own _=>e.mapA (A.drop (.cell b o))
    |_=>e).setRoot (.cell b o) a
theorem zlq(e:Env)(b o:Nat)(a:A)(r:List A):zf7 e b o (a::r)=zf7 (zh6 e b o a) b (o+1) r:=by
 cases a<;>rfl
theorem zka(e:Env)(b o:Nat)(a:A):∃f:A->A,zh6 e b o a=(e.mapA f).setRoot (.cell b o) a/\(zgm f (λl=>l.root≠.cell b o) (λ_=>True)∨((∀a,f a=a)/\ ∀d,a≠.own d)):=by
 by_cases hv:∃d,a=.own d
 ·obtain⟨d,rfl⟩:=hv;exact⟨A.drop (.cell b o),rfl,.inl (zd0 _)⟩
 ·refine⟨id,?_,.inr ⟨λ_=>rfl,λd e=>hv ⟨d,e⟩⟩⟩
  rw[ziw];cases a<;>first|rfl|exact absurd ⟨_,rfl⟩ hv
theorem Sim.pokeBox[Base]{g:G}{e:Env}{tm:Array Value}{w:World}(h:Sim g e tm w){b o:Nat}{cs:List A}(hb:e.box b=some cs)(hlt:b<zab)(ho:o<cs.length){a:A}{u:Value}{Y:Blk}(hp:a.portable=true)(hu:u.oneCell' =true)
 (hh:HoldA g e tm w Y a u) (hf:FreeB g e w Y):
 ∃g',Sim g' (zh6 e b o a) tm (w.setCell ⟨g.β b,o,none⟩ u)/\g'.c=g.c/\g'.β=g.β/\g'.γ=g.γ/\(∀s x,g'.S s x->g.S s x∨Y x):=by
 have hbs:(e.box b).isSome=true:=by rw[hb];rfl
 obtain⟨arr,el,hblk,harr,hcells⟩:∃arr el,w.heap[g.β b]? =some (.cells arr el (0,0))/\arr.size=cs.length/\ ∀o a,cs[o]? =some a->a.portable=true/\(arr.getD o undef).oneCell' =true/\RepA g e tm w (.cell b o) a (arr.getD o undef):=by
  have:=h.bx b cs hb;unfold RepBox at this;rwa [if_neg (by omega)]at this
 obtain⟨f,hform,hkill⟩:=zka e b o a;rw[hform]
 have hfo:∀a d,f a=.own d->a=.own d:=by
  rcases hkill with hk|⟨hk,_⟩
  ·exact zef hk
  ·intro a d e;rw[<-hk a];exact e
 have hheap:∀x,x≠g.β b->(w.setCell ⟨g.β b,o,none⟩ u).heap[x]? =w.heap[x]?:=λx hx=>zca w _ u x hx
 have hS:∀s x,g.S s x->(w.setCell ⟨g.β b,o,none⟩ u).heap[x]? =w.heap[x]?:=λs x hx=>hheap x (λe=>h.sbox s b x hx hbs hlt e.symm)
 have hYb:∀x,Y x->x≠g.β b:=λx hx e=>hf.box x b hx hbs hlt e.symm
 have hcell:∀b' o',¬(b' =b/\o' =o)->(e.box b').isSome=true->b' <zab->(w.setCell ⟨g.β b,o,none⟩ u).cell? ⟨g.β b',o',none⟩=w.cell? ⟨g.β b',o',none⟩:=by
  intro b' o' hne hb' hlt';by_cases e1:g.β b' =g.β b
  ·have:=h.binj b' b hb' hbs hlt' hlt e1;subst this;have ho':o' ≠o:=λe=>hne ⟨rfl,e⟩
   simp[World.cell?,zh5 w _ o u hblk,hblk,Array.getElem?_setIfInBounds_ne (Ne.symm ho')]
  ·exact World.cell?_of_block (hheap _ e1)
 have hroot:∀r,r≠.cell b o-> ∀D,e.root r=.own D-> ∀V,RootV g tm w r V->RootV (g.setSlot (.cell b o) Y) tm (w.setCell ⟨g.β b,o,none⟩ u) r V:=by
  intro r hr D hD V hV
  cases r with
  |tmp t=>exact hV
  |cell b' o' =>
   simp only[RootV]at hV ⊢;split
   ·rename_i hg;rw[if_pos hg]at hV;exact hV
   ·rename_i hg;rw[if_neg hg]at hV
    have hs:(e.box b').isSome=true:=by
     simp only[Env.root]at hD;split at hD
     ·rename_i cs hcs;rw[hcs];rfl
     ·cases hD
    show (w.setCell ⟨g.β b,o,none⟩ u).cell? ⟨g.β b',o',none⟩=some V;rw[hcell b' o' (λ⟨e1,e2⟩=>hr (by rw[e1,e2])) hs (by omega)]
    exact hV
 have K:zcy g e tm w (g.setSlot (.cell b o) Y) ((e.mapA f).setRoot (.cell b o) a) tm (w.setCell ⟨g.β b,o,none⟩ u) (λl=>l.root≠.cell b o∨ ∀d,a≠.own d) (λ_=>True):=by
  refine⟨λ_ _ _ hx=>hx,λl hl d' hd' =>?_,λb' _ hb' _=>⟨by rw[zaj]at hb';exact hb',rfl⟩⟩
  have hne:l.root≠.cell b o:=by
   rcases hl with hl|hl
   ·exact hl
   ·intro e1;simp only[Env.ownAt,e1,Env.root,za1,if_pos,hb,Option.map_some]at hd';rw[List.getD_eq_getElem?_getD,List.getElem?_set_self ho]at hd'
    cases a with
    |own d=>exact absurd rfl (hl d)
    |_=>cases hd'
  have hd:e.ownAt l=some d':=by
   simp only[Env.ownAt]at hd' ⊢;split at hd'
   ·rename_i D1 hD1;rw[za9 hfo hne hD1];exact hd'
   ·cases hd'
  refine⟨d',hd,λz xs' e=>⟨xs',e,Nat.le_refl _⟩,λv hv=>?_⟩
  have hl2:=hd;simp only[Env.ownAt]at hl2;split at hl2
  ·rename_i D1 hD1;exact h.conc hd (λV hV=>hroot _ hne D1 hD1 V hV) (λx hx=>hS _ x hx) hv
  ·cases hl2
 have hkf:zgm f (λl=>l.root≠.cell b o∨ ∀d,a≠.own d) (λ_=>True):=by
  rcases hkill with hk|⟨hk,hv⟩
  ·exact ze9 hk (λl hl=>.inl hl) (λ_ hb=>hb)
  ·exact λa=>.inr ⟨hk a,by cases a<;>first|trivial|exact Or.inr hv|(intro b hb;trivial)⟩
 have hSl:∀s x,(g.setSlot (.cell b o) Y).S s x->(s=.cell b o/\Y x)∨(s≠.cell b o/\g.S s x):=by
  intro s x hx;by_cases e1:s=.cell b o
  ·subst e1;rw[zal]at hx;exact .inl ⟨rfl,hx⟩
  ·rw[zae g _ e1]at hx;exact .inr ⟨e1,hx⟩
 refine⟨g.setSlot (.cell b o) Y,?_,rfl,rfl,rfl,λs x hx=>(hSl s x hx).elim (λh=>.inr h.2) (λh=>.inl h.2)⟩
 refine{
  size:=by rw[zct];exact h.size
  tv:=λt=>?_
  bx:=λb' cs' hcs' =>?_
  binj:=λb1 b2 h1 h2=>by rw[zaj]at h1 h2;exact h.binj b1 b2 h1 h2
  sdis:=λs s' x hx hx' =>?_
  sbox:=λs b' x hx hb' hlt' =>?_
  slt:=λs x hx=>?_
  cmem:=λb' o' v hv=>?_
  base:=h.base
  fix:=λx v hv=>(hheap x (λe1=>(h.cdis x 0 v (h.base _ _ _ hv)).2 b hbs hlt e1.symm)).trans (h.fix x v hv)
  cdis:=λb' o' v hv=>⟨λs hx=>?_,λid hid=>by rw[zaj]at hid;exact(h.cdis b' o' v hv).2 id hid⟩}
 ·rw[zbf,if_neg (by simp)]
  exact(h.tv t).kill K hkf (λk x hx=>⟨by rw[zae g _ (by simp)];exact hx,hS _ x hx⟩)
 ·rw[za1]at hcs';dsimp only at hcs';by_cases e1:b' =b
  ·subst e1;rw[if_pos rfl,hb]at hcs';simp only[Option.map_some,Option.some.injEq]at hcs';subst hcs';unfold RepBox;rw[if_neg (by omega)]
   refine⟨_,el,zh5 w _ o u hblk,by simpa using harr,λo' a' ha' =>?_⟩
   rw[getD_setIf arr o' o u (by omega)]
   by_cases e2:o' =o
   ·subst e2;rw[List.getElem?_set_self ho]at ha';obtain rfl:=Option.some.inj ha';rw[if_pos rfl];exact⟨hp,hu,hh.cell hp (λ_ _ _ hx=>hx) (λx hx=>by rw[zal];exact hx) (λx hx=>hheap x (hYb x hx))⟩
   ·rw[List.getElem?_set_ne (Ne.symm e2)]at ha';rw[if_neg e2];obtain⟨h1,h2,h3⟩:=hcells o' a' ha';exact⟨h1,h2,h3.keep K (zcq h1 _ _) (λ_ _ x hx=>⟨by rw[zae g _ (by simpa using e2)];exact hx,hS _ x hx⟩) (λ_=>⟨rfl,λ_ _ _ _=>⟨rfl,λt ht=>ht.setCell _ _⟩⟩)⟩
  ·rw[if_neg e1]at hcs';have hbs':(e.box b').isSome=true:=by rw[hcs'];rfl
   exact(h.bx b' cs' hcs').keep K (λo' x hx=>⟨by rw[zae g _ (by simp[e1])];exact hx,hS _ x hx⟩) (λhlt' =>⟨rfl,hheap _ (λe2=>e1 (h.binj b' b hbs' hbs hlt' hlt e2))⟩) (λ_=>rfl)
 ·rcases hSl s x hx with⟨rfl,hy⟩|⟨hn,hs⟩<;>rcases hSl s' x hx' with⟨rfl,hy'⟩|⟨hn',hs'⟩
  ·rfl
  ·exact(hf.S s' x hy hs').elim
  ·exact(hf.S s x hy' hs).elim
  ·exact h.sdis s s' x hs hs'
 ·rw[zaj]at hb';rcases hSl s x hx with⟨rfl,hy⟩|⟨_,hs⟩
  ·exact hf.box x b' hy hb' hlt'
  ·exact h.sbox s b' x hs hb' hlt'
 ·rw[zcb];rcases hSl s x hx with⟨rfl,hy⟩|⟨_,hs⟩
  ·exact hf.lt x hy
  ·exact h.slt s x hs
 ·have:=h.cmem b' o' v hv;have hne:b' ≠g.β b:=λe1=>(h.cdis b' o' v hv).2 b hbs hlt e1.symm
  simp only[zbc]at this ⊢;rw[World.cell?_of_block (w':=w.setCell ⟨g.β b,o,none⟩ u) (w:=w) (hheap b' hne)];exact this
 ·rcases hSl s b' hx with⟨rfl,hy⟩|⟨_,hs⟩
  ·exact hf.c b' o' v hy hv
  ·exact(h.cdis b' o' v hv).1 s hs
def zdv(w:World)(blk:Nat):Nat->List Value->World
 |_,[]=>w
 |o,u::r=>zdv (w.setCell ⟨blk,o,none⟩ u) blk (o+1) r
theorem zlr{P:Program}{blk off:Nat}:∀{us:List Value} {i:Nat} {w:World} {cur:Array Value} {e:TypeId},RowAt w blk cur e->off+i+us.length<=cur.size->(∀u∈us,u.oneCell' =true)->
 (storeCells ⟨blk,off,none⟩ us i).run P w=.ok () (zdv w blk (off+i) us)
 | [],i,w,cur,e,_,_,_=>by simp[storeCells,zdv]
 |u::r,i,w,cur,e,hb,hl,h1=>by
  have hlt:off+i<cur.size:=by simp at hl;omega
  have hadd:(⟨blk,off,none⟩:Addr).add i=⟨blk,off+i,none⟩:=by unfold Addr.add;split<;>simp_all
  have hc:w.cell? ⟨blk,off+i,none⟩=some (cur.getD (off+i) undef):=hb.cell hlt;have hfz:w.frozen? ⟨blk,off+i,none⟩=false:=hb.live hlt;have ih:=zlr (P:=P) (off:=off) (us:=r) (i:=i+1) (w:=w.setCell ⟨blk,off+i,none⟩ u) (hb.set (off+i) u) (by simp at hl ⊢;omega) (λu hu=>h1 u (List.mem_cons_of_mem _ hu))
  simp only[storeCells,Sem.run_bind,hadd,run_store P w _ u .plain (h1 u List.mem_cons_self),hc,hfz,Bool.false_eq_true,if_false,Result.andThen_ok,zdv];exact ih
end Go.Qz
namespace Go.Qz
theorem zh7(e:Env)(b o:Nat)(a:A)(b':Nat):(zh6 e b o a).box b' =if b' =b then(e.box b').map λcs=>cs.set o a else e.box b':=by
 obtain⟨f,hf,_⟩:=zka e b o a;rw[hf,za1];dsimp only;split
 ·rename_i h;rw[h]
 ·rfl
theorem zhs(e:Env)(b o:Nat)(a:A)(b':Nat):((zh6 e b o a).box b').isSome=(e.box b').isSome:=by
 rw[zh7];split
 ·cases e.box b' <;>rfl
 ·rfl
theorem zix:∀(as:List A) (e:Env) (b o b':Nat),((zf7 e b o as).box b').isSome=(e.box b').isSome
 | [],_,_,_,_=>rfl
 |a::r,e,b,o,b' =>by rw[zlq,zix r,zhs]
theorem zfb{blk:Nat}:∀(us:List Value) (w:World) (o x:Nat),x≠blk->(zdv w blk o us).heap[x]? =w.heap[x]?
 | [],_,_,_,_=>rfl
 |u::r,w,o,x,hx=>by rw[zdv,zfb r _ _ _ hx,zca w _ u x hx]
theorem zc8{blk:Nat}:∀(us:List Value) (w:World) (o:Nat),(zdv w blk o us).heap.size=w.heap.size
 | [],_,_=>rfl
 |u::r,w,o=>by rw[zdv,zc8 r,zcb]
theorem zfc{blk:Nat}:∀(us:List Value) (w:World) (o:Nat),(zdv w blk o us).os=w.os/\(zdv w blk o us).tape=w.tape/\(zdv w blk o us).output=w.output
 | [],_,_=>⟨rfl,rfl,rfl⟩
 |u::r,w,o=>by rw[zdv];exact zfc r _ _
theorem zp8[Base]{tm:Array Value}{b:Nat}:∀{as:List A} {us:List Value} {g:G} {e:Env} {w:World} {o:Nat} {cs:List A} {Y:Nat->Blk},Sim g e tm w->e.box b=some cs->b<zab->o+as.length<=cs.length->us.length=as.length->
 (∀a∈as,a.portable=true)->(∀u∈us,u.oneCell' =true)->(∀k a u,as[k]? =some a->us[k]? =some u->HoldA g e tm w (Y k) a u)->Free g e w Y->
 ∃g',Sim g' (zf7 e b o as) tm (zdv w (g.β b) o us)/\g'.c=g.c/\g'.β=g.β/\g'.γ=g.γ/\ ∀s x,g'.S s x->g.S s x∨ ∃k,Y k x
 | [],us,g,e,w,o,cs,Y,h,_,_,_,hl,_,_,_,_=>by
   obtain rfl:us=[]:=List.eq_nil_of_length_eq_zero (by simpa using hl)
   exact⟨g,h,rfl,rfl,rfl,λ_ _ hx=>.inl hx⟩
 |a::r,[],_,_,_,_,_,_,_,_,_,_,hl,_,_,_,_=>by simp at hl
 |a::r,u::us,g,e,w,o,cs,Y,h,hb,hlt,ho,hl,hp,hu,hh,hf=>by
  have ho':o<cs.length:=by simp at ho;omega
  have hbs:(e.box b).isSome=true:=by rw[hb];rfl
  have hh0:=hh 0 a u rfl rfl;have hf0:FreeB g e w (Y 0):=⟨hf.S 0,hf.box 0,hf.lt 0,hf.c 0⟩;obtain⟨g1,h1,hc,hβ,hγ,hS⟩:=h.pokeBox hb hlt ho' (hp a List.mem_cons_self) (hu u List.mem_cons_self) hh0 hf0;have hYb:∀k x,Y k x->x≠g.β b:=λk x hx e1=>hf.box k x b hx hbs hlt e1.symm
  have hb1:(zh6 e b o a).box b=some (cs.set o a):=by rw[zh7,if_pos rfl,hb];rfl
  have hf1:Free g1 (zh6 e b o a) (w.setCell ⟨g.β b,o,none⟩ u) (λk=>Y (k+1)):=by
   refine⟨λk k' x hx hx' =>by have:=hf.one (k+1) (k' +1) x hx hx';omega,λk s x hx hs=>?_,λk x b' hx hb' hlt' =>?_,λk x hx=>?_,λk x o v hx hv=>hf.c (k+1) x o v hx (by rw[<-hc];exact hv)⟩
   ·rcases hS s x hs with hs|hy
    ·exact hf.S (k+1) s x hx hs
    ·have:=hf.one (k+1) 0 x hx hy;omega
   ·rw[zhs]at hb';rw[hβ];exact hf.box (k+1) x b' hx hb' hlt'
   ·rw[zcb];exact hf.lt (k+1) x hx
  obtain⟨g2,h2,hc2,hβ2,hγ2,hS2⟩:=zp8 (as:=r) (us:=us) (o:=o+1) h1 hb1 hlt (by simp at ho ⊢;omega) (by simpa using hl) (λa ha=>hp a (List.mem_cons_of_mem _ ha)) (λu hu' =>hu u (List.mem_cons_of_mem _ hu'))
   (λk a' u' ha' hu' =>(hh (k+1) a' u' (by simpa using ha') (by simpa using hu')).port (hp a' (List.mem_cons_of_mem _ (List.mem_of_getElem? ha'))) (by rw[hc];exact λ_ _ _ h=>h) (λx hx=>zca w _ u x (hYb _ x hx))) hf1
  rw[zlq];refine⟨g2,by simp only[zdv];rw[hβ]at h2;exact h2,hc2.trans hc,hβ2.trans hβ,hγ2.trans hγ,λs x hx=>?_⟩
  rcases hS2 s x hx with hs|⟨k,hy⟩
  ·rcases hS s x hs with hs|hy
   ·exact .inl hs
   ·exact .inr ⟨0,hy⟩
  ·exact .inr ⟨k+1,hy⟩
theorem zwe[Base]{g g1:G}{e e1:Env}{tm:Array Value}{w w1:World}{b o:Nat}{cs as:List A}{us:List Value}{Y:Nat->Blk}(h:Sim g1 e1 tm w1)(hn:Next g e w g1 e1 w1)(hb:e1.box b=some cs)(hlt:b<zab)(ho:o+as.length<=cs.length)(hl:us.length=as.length)
 (hp:∀a∈as,a.portable=true) (hu:∀u∈us,u.oneCell' =true) (hh:∀k a u,as[k]? =some a->us[k]? =some u->HoldA g1 e1 tm w1 (Y k) a u) (hf:Free g1 e1 w1 Y) (hY:∀k x,Y k x->Mine g e x∨w.heap.size<=x):
 Goes g e w (zf7 e1 b o as) tm (zdv w1 (g1.β b) o us):=by
 obtain⟨g2,h2,hc,hβ,hγ,hS⟩:=zp8 h hb hlt ho hl hp hu hh hf;have hbs:(e1.box b).isSome=true:=by rw[hb];rfl
 have hbm:Mine g1 e1 (g1.β b):=.inr ⟨b,hbs,hlt,rfl⟩;obtain⟨r1,r2,r3⟩:=zfc (blk:=g1.β b) us w1 o;refine⟨g2,h2,r1.trans hn.os,r2.trans hn.tape,r3.trans hn.output,by rw[zc8];exact hn.size,λx hx hm=>?_,λx hx=>?_,by rw[hc];exact hn.c,λb' o' v hv=>hn.cnew b' o' v (by rw[<-hc];exact hv),λb' hb' =>⟨by rw[hβ];exact(hn.lent b' hb').1,by rw[hγ];exact(hn.lent b' hb').2⟩⟩
 ·rw[zfb us w1 o x (λe2=>(hn.mine _ hbm).elim (λh=>hm (e2▸h)) (λh=>by omega))]
  exact hn.old x hx hm
 ·rcases hx with⟨s,hs⟩|⟨b',hb',hlt',hx⟩
  ·rcases hS s x hs with hs|⟨k,hy⟩
   ·exact hn.mine x (.inl ⟨s,hs⟩)
   ·exact hY k x hy
  ·rw[zix]at hb';exact hn.mine x (.inr ⟨b',hb',hlt',by rw[<-hβ];exact hx⟩)
theorem zdw(b:Nat):zgm (A.killBox b) (λl=>l.root.inBox b=false) (λb' =>b' ≠b):=by
 intro a
 cases a with
 |view l=>by_cases h:l.root.inBox b=true<;>simp[A.killBox,h,A.okRefs]
 |eptr l z i o=>by_cases h:l.root.inBox b=true<;>simp[A.killBox,h,A.okRefs]
 |pview l i k=>by_cases h:l.root.inBox b=true<;>simp[A.killBox,h,A.okRefs]
 |ptr b' o=>by_cases h:b' =b<;>simp[A.killBox,h,A.okRefs]
 |fn f caps=>
  by_cases h:caps.any (Cap.refsBox b)=true
  ·simp[A.killBox,h]
  ·right;refine⟨by simp only[A.killBox,if_neg h],λb' hb' e=>h ?_⟩
   rw[List.any_eq_true];exact⟨_,hb',by simp[Cap.refsBox,e]⟩
 |_=>exact .inr ⟨rfl,by simp[A.okRefs]⟩
def G.laid(g:G)(d blk:Nat)(Y:Nat->Blk):G:=
 {c:=g.c
  S:=λs=>match s with
   | .cell b o=>if b=d then Y o else g.S (.cell b o)
   | .tmp t k=>g.S (.tmp t k)
  β:=λb=>if b=d then blk else g.β b
  γ:=g.γ}
theorem zjp[Base]{g g1:G}{e e1 e2:Env}{tm:Array Value}{w w1:World}{d:Nat}{as:List A}{us:Array Value}{Y:Nat->Blk}{el:TypeId}(h0:Sim g1 e1 tm w1)(hn:Next g e w g1 e1 w1)(hd:d<zaq)(hl:us.size=as.length)
 (hp:∀a∈as,a.portable=true) (hu:∀k,k<as.length->(us.getD k undef).oneCell' =true) (hh:∀k a,as[k]? =some a->HoldA g1 e1 tm w1 (Y k) a (us.getD k undef)∨(a=.bnil el/\us.getD k undef=.pointer none)) (hf0:Free g1 e1 w1 Y) (hY:∀k x,Y k x->Mine g e x∨w.heap.size<=x)
 (hput:zap (e1.newBox d as) (some d) (.one (.ptr d 0))=some e2):
 Goes g e w e2 (tm.setIfInBounds d (.pointer (some ⟨w1.heap.size,0,none⟩))) (w1.alloc (.cells us el)):=by
 have hgf:d<zab:=Nat.lt_trans hd (by decide)
 have hold:∀x,x<w1.heap.size->(w1.alloc (.cells us el)).heap[x]? =w1.heap[x]?:=λx hx=>Go.heap_alloc_old w1 _ x hx
 have hnew:(w1.alloc (.cells us el)).heap[w1.heap.size]? =some (.cells us el (0,0)):=Go.heap_alloc_new w1 _;have hsz:(w1.alloc (.cells us el)).heap.size=w1.heap.size+1:=by show (w1.heap.push _).size=_;rw[Array.size_push]
 have h:=h0.grow (w':=w1.alloc (.cells us el)) (by omega) hold
 have hboxlt:∀b,(e1.box b).isSome=true->b<zab->g1.β b<w1.heap.size:=by
  intro b hb hlt;obtain⟨cs,hcs⟩:=Option.isSome_iff_exists.1 hb;have:=h0.bx b cs hcs;unfold RepBox at this;rw[if_neg (by omega)]at this
  obtain⟨arr,e,h1,_⟩:=this;exact(Array.getElem?_eq_some_iff.1 h1).1
 have hYlt:∀k x,Y k x->x<w1.heap.size:=hf0.lt;have hclt:∀b o v,g1.c b o=some v->b<w1.heap.size:=λb o v hv=>World.block_lt_of_cell? w1 _ (h0.cmem b o v hv)
 have box_new:∀b,(e1.newBox d as).box b=if b=d then some as else e1.box b:=λb=>rfl
 have get_new:∀t,(e1.newBox d as).get t=(e1.get t).mapA (A.killBox d):=λt=>rfl
 have hroot:∀r:Root,r.inBox d=false-> ∀D,(e1.newBox d as).root r=.own D->e1.root r=.own D:=by
  intro r hr D hD
  cases r with
  |tmp t=>
   simp only[Env.root,get_new]at hD ⊢
   cases hV:e1.get t with
   |one a=>
    rw[hV]at hD;simp only[V.mapA]at hD ⊢;exact zef (zdw d) _ _ hD
   |tup as=>rw[hV]at hD;cases hD
   |agg as=>rw[hV]at hD;cases hD
  |cell b o=>
   have hne:b≠d:=by simpa [Root.inBox]using hr
   simp only[Env.root,box_new,if_neg hne]at hD ⊢;exact hD
 have hS:∀s x,(g1.laid d w1.heap.size Y).S s x->(∃o,s=.cell d o/\Y o x)∨((∀o,s≠.cell d o)/\g1.S s x):=by
  intro s x hx
  cases s with
  |tmp t k=>exact .inr ⟨λo e=>(by cases e),hx⟩
  |cell b o=>
   simp only[G.laid]at hx;split at hx
   ·rename_i e;subst e;exact .inl ⟨o,rfl,hx⟩
   ·rename_i e;exact .inr ⟨λo' e' =>e (by cases e';rfl),hx⟩
 have hβ:∀b,b≠d->(g1.laid d w1.heap.size Y).β b=g1.β b:=λb hb=>by simp[G.laid,hb]
 have hβd:(g1.laid d w1.heap.size Y).β d=w1.heap.size:=by simp[G.laid]
 have K:zcy g1 e1 tm (w1.alloc (.cells us el)) (g1.laid d w1.heap.size Y) (e1.newBox d as) tm (w1.alloc (.cells us el)) (λl=>l.root.inBox d=false) (λb=>b≠d):=by
  refine⟨λ_ _ _ hx=>hx,λl hl d' hd' =>?_,λb hb hbs _=>?_⟩
  ·have hd:e1.ownAt l=some d':=by
    simp only[Env.ownAt]at hd' ⊢;split at hd'
    ·rename_i D1 hD1;rw[hroot _ hl _ hD1];exact hd'
    ·cases hd'
   refine⟨d',hd,λz xs' e=>⟨xs',e,Nat.le_refl _⟩,λv hv=>?_⟩
   refine h.conc hd (λV hV=>?_) (λ_ _=>rfl) hv
   cases hr:l.root with
   |tmp t=>rw[hr]at hV;exact hV
   |cell b o=>
    rw[hr]at hV hl;have hne:b≠d:=by simpa [Root.inBox]using hl
    simp only[RootV,hβ b hne]at hV ⊢;exact hV
  ·rw[box_new,if_neg hb]at hbs;exact⟨hbs,hβ b hb⟩
 have key:Sim (g1.laid d w1.heap.size Y) (e1.newBox d as) tm (w1.alloc (.cells us el)):=by
  refine{
   size:=h.size
   tv:=λt=>?_
   bx:=λb cs hcs=>?_
   binj:=λb b' hb hb' hlt hlt' he=>?_
   sdis:=λs s' x hx hx' =>?_
   sbox:=λs b x hx hb hlt=>?_
   slt:=λs x hx=>?_
   cmem:=h.cmem
   base:=h.base
   fix:=h.fix
   cdis:=λb o v hv=>⟨λs hx=>?_,λid hid hlt=>?_⟩}
  ·rw[get_new];exact(h.tv t).kill K (zdw d) (λk x hx=>⟨hx,rfl⟩)
  ·rw[box_new]at hcs;by_cases e:b=d
   ·subst e;rw[if_pos rfl]at hcs;simp only[Option.some.injEq]at hcs;subst hcs;unfold RepBox;rw[if_neg (by omega),hβd]
    refine⟨us,el,hnew,hl,λo a ha=>⟨hp a (List.mem_of_getElem? ha),hu o (List.getElem?_eq_some_iff.1 ha).1,?_⟩⟩
    rcases hh o a ha with hh|⟨rfl,hv⟩
    ·refine HoldA.cell (g:=g1) (env:=e1) (tm:=tm) (hp a (List.mem_of_getElem? ha)) (λ_ _ _ hx=>hx) (λx hx=>?_) (λx hx=>hold x (hYlt o x hx)) hh
     simp only[G.laid,if_pos];exact hx
    ·exact⟨hv,b,o,rfl,λ_=>by rw[hβd];exact⟨us,_,hnew⟩⟩
   ·rw[if_neg e]at hcs;exact(h.bx b cs hcs).keep K (λo x hx=>⟨by simp only[G.laid,if_neg e];exact hx,rfl⟩) (λ_=>⟨hβ b e,rfl⟩) (λ_=>rfl)
  ·rw[box_new]at hb hb';by_cases e:b=d<;>by_cases e':b' =d
   ·rw[e,e']
   ·rw[if_neg e']at hb';rw[e,hβd,hβ b' e']at he;have:=hboxlt b' hb' hlt';omega
   ·rw[if_neg e]at hb;rw[e',hβd,hβ b e]at he;have:=hboxlt b hb hlt;omega
   ·rw[if_neg e]at hb;rw[if_neg e']at hb';rw[hβ b e,hβ b' e']at he;exact h.binj b b' hb hb' hlt hlt' he
  ·rcases hS s x hx with⟨o,rfl,hy⟩|⟨hne,hs⟩<;>rcases hS s' x hx' with⟨o',rfl,hy'⟩|⟨hne',hs'⟩
   ·rw[hf0.one o o' x hy hy']
   ·exact(hf0.S o s' x hy hs').elim
   ·exact(hf0.S o' s x hy' hs).elim
   ·exact h.sdis s s' x hs hs'
  ·rw[box_new]at hb;by_cases e:b=d
   ·subst e;rw[hβd];rcases hS s x hx with⟨o,rfl,hy⟩|⟨_,hs⟩
    ·have:=hYlt o x hy;omega
    ·have:=h0.slt s x hs;omega
   ·rw[if_neg e]at hb;rw[hβ b e];rcases hS s x hx with⟨o,rfl,hy⟩|⟨_,hs⟩
    ·exact hf0.box o x b hy hb hlt
    ·exact h.sbox s b x hs hb hlt
  ·rcases hS s x hx with⟨o,rfl,hy⟩|⟨_,hs⟩
   ·have:=hYlt o x hy;omega
   ·exact h.slt s x hs
  ·rcases hS s b hx with⟨o',rfl,hy⟩|⟨_,hs⟩
   ·exact hf0.c o' b o v hy hv
   ·exact(h.cdis b o v hv).1 s hs
  ·rw[box_new]at hid;by_cases e:id=d
   ·rw[e,hβd];have:=hclt b o v hv;omega
   ·rw[if_neg e]at hid;rw[hβ id e];exact(h.cdis b o v hv).2 id hid hlt
 have hnx:Next g e w (g1.laid d w1.heap.size Y) (e1.newBox d as) (w1.alloc (.cells us el)):=by
  refine⟨hn.os,hn.tape,hn.output,Nat.le_trans hn.size (by omega),λx hx hm=>?_,λx hx=>?_,hn.c,hn.cnew,λb hb=>⟨?_,(hn.lent b hb).2⟩⟩
  ·rw[hold x (Nat.lt_of_lt_of_le hx hn.size)];exact hn.old x hx hm
  ·rcases hx with⟨s,hs⟩|⟨b,hb,hlt,hx⟩
   ·rcases hS s x hs with⟨o,_,hy⟩|⟨_,hs⟩
    ·exact hY o x hy
    ·exact hn.mine x (.inl ⟨s,hs⟩)
   ·rw[box_new]at hb;by_cases e:b=d
    ·rw[e,hβd]at hx;exact .inr (by have:=hn.size;omega)
    ·rw[if_neg e]at hb;rw[hβ b e]at hx;exact hn.mine x (.inr ⟨b,hb,hlt,hx⟩)
  ·rw[hβ b (by have:zaq<=b:=hb;omega)]
   exact(hn.lent b hb).1
 have hold2:Holds g e tm w (.one (.ptr d 0)) (.pointer (some ⟨w1.heap.size,0,none⟩)) (e1.newBox d as) (w1.alloc (.cells us el)):=
  ⟨_,λ_ _=>False,key,λ_ _=>by rw[hβd],zaw _ _ _,hnx,λ_ _ hx=>hx.elim⟩
 exact hold2.put hput
end Go.Qz
namespace Go.Qz
theorem zhb{P:Program}{t:TypeId}{n:Nat}(h:zbj P t=some n):∃i d,P.info? t=some i/\P.underlying t=some d/\i.size=n:=by
 unfold zbj at h;split at h
 ·rename_i i hi;split at h
  ·rename_i d hd;exact⟨i,d,hi,hd,by simpa using h⟩
  ·cases h
 ·cases h
theorem zjq{P:Program}{t:TypeId}{n:Nat}(h:zbj P t=some n)(w:World):(isAgg t).run P w=.ok (zbi P t) w:=by
 obtain⟨i,d,_,hd,_⟩:=zhb h;unfold zbi;rw[hd];cases d<;>simp[isAgg,run_underlying hd]
theorem zeg{P:Program}{t:TypeId}{n:Nat}(h:zbj P t=some n)(w:World):(sizeOf t).run P w=.ok n w:=by
 obtain⟨i,d,hi,_,hs⟩:=zhb h;simp[sizeOf,typeInfo,hi,hs]
theorem zcg(b off m:Nat):(⟨b,off,none⟩:Addr).add m=⟨b,off+m,none⟩:=by unfold Addr.add;split<;>simp_all
theorem PathV.snoc{w:World}{z i o b n cap:Nat}{u:Value}:∀{p:Path} {V:Value},PathV w V p (.slice (some ⟨b,0,none⟩) n cap)->w.cell? ⟨b,i*z+o,none⟩=some u->PathV w V (p++[(z,i,o)]) u
 | [],_,h,hc=>⟨b,n,cap,u,h,hc,rfl⟩
 |(_,_,_)::_,_,⟨b',n',cap',u',hV,hu,hp⟩,hc=>⟨b',n',cap',u',hV,hu,PathV.snoc hp hc⟩
theorem zoz{P:Program}{t:TypeId}{n b o:Nat}{w:World}{u:Value}(hs:zbj P t=some n)(ha:zbi P t=false)(hc:w.cell? ⟨b,o,none⟩=some u):(Instr.loadAt t (.pointer (some ⟨b,o,none⟩))).run P w=.ok u w:=by
 simp[Instr.loadAt,Instr.sureAddr,loadVar,zjq hs,ha,hc]
theorem zo0{P:Program}{t:TypeId}{n b o:Nat}{w:World}{us:Nat->Value}(hs:zbj P t=some n)(ha:zbi P t=true)(hc:∀m,m<n->w.cell? ⟨b,o+m,none⟩=some (us m)):
 (Instr.loadAt t (.pointer (some ⟨b,o,none⟩))).run P w=.ok (.agg ((List.range n).map us).toArray) w:=by
 have:=run_loadCells (P:=P) w ⟨b,o,none⟩ n us (λj hj=>by rw[zcg];exact hc j hj)
 simp[Instr.loadAt,Instr.sureAddr,loadVar,zjq hs,ha,zeg hs,this]
theorem zhc(n:Nat)(us:Nat->Value)(k:Nat)(hk:k<n):(((List.range n).map us).toArray).getD k undef=us k:=by
 simp[Array.getD_eq_getD_getElem?,hk]
theorem zp9(b:Nat):∀(as:List A) (o k:Nat),(zon b o as)[k]? =(as[k]?).map (look ⟨.cell b (o+k),[]⟩)
 | [],_,_=>by simp[zon]
 |a::r,o,0=>by simp[zon]
 |a::r,o,k+1=>by simp only[zon,List.getElem?_cons_succ];rw[zp9 b r (o+1) k,show o+1+k=o+(k+1) by omega]
theorem zkb(b:Nat):∀(as:List A) (o:Nat),(zon b o as).length=as.length
 | [],_=>rfl
 |a::r,o=>by simp[zon,zkb b r (o+1)]
theorem zqa{g:G}{e:Env}{tm:Array Value}{w:World}{b o:Nat}{a:A}{u:Value}(hp:a.portable=true)(hlt:b<zab)(hc:w.cell? ⟨g.β b,o,none⟩=some u)(h:RepA g e tm w (.cell b o) a u):
 HoldA g e tm w (λ_=>False) (look ⟨.cell b o,[]⟩ a) u:=by
 cases a with
 |own d=>
  intro d' _;refine⟨u,?_,rfl⟩;simp only[RootV];rw[if_neg (by omega)]
  exact hc
 |selfp=>
  obtain⟨b',o',hs,hv⟩:=h;cases hs;exact λ_ _=>hv hlt
 |bnil t=>
  obtain⟨rfl,_⟩:=h;exact .nilp
 |ro d=>exact h
 |undef=>exact h
 |dead=>trivial
 |fn f caps=>
  cases caps with
  |nil=>obtain⟨vs,e,hs,_⟩:=h;exact⟨vs,e,hs,λk c hc=>by simp at hc⟩
  |cons c r=>simp[A.portable]at hp
 |view l=>simp[A.portable]at hp
 |ptr b o=>simp[A.portable]at hp
 |eptr l z i o=>simp[A.portable]at hp
 |pview l i k=>simp[A.portable]at hp
 |rptr ds=>simp[A.portable]at hp
theorem znt{g:G}{e:Env}{tm:Array Value}{w:World}{l:Loc}{z i o b n cap:Nat}{d:D}{a:A}{u:Value}{U:Blk}(hl:zv3 l z i o d=some a)(hcv:ConcV g tm w l (.slice (some ⟨b,0,none⟩) n cap))(hc:w.cell? ⟨b,i*z+o,none⟩=some u)
 (ho:OwnC w d u U):HoldA g e tm w (λ_=>False) a u:=by
 unfold zv3 at hl;split at hl
 ·rename_i hf;simp only[Option.some.injEq]at hl;subst hl;have:RO (zbc w) d u:=ho.toRO (λb o u _ hu=>hu)
  exact RO.mono (zox _) (RO.flat this hf)
 ·split at hl
  ·simp only[Option.some.injEq]at hl;subst hl;intro d' _;obtain⟨V,hV,hp⟩:=hcv;exact⟨V,hV,hp.snoc hc⟩
  ·cases hl
theorem znu{l:Loc}{z i:Nat}:∀{ds:List D} {o:Nat} {as:List A},znf l z i o ds=some as->as.length=ds.length/\ ∀k a,as[k]? =some a-> ∃d,ds[k]? =some d/\zv3 l z i (o+k) d=some a
 | [],o,as,h=>by
   simp only[znf,Option.some.injEq]at h;subst h;exact⟨rfl,λk a ha=>by simp at ha⟩
 |d::r,o,as,h=>by
  simp only[znf]at h;split at h
  ·rename_i a ha;split at h
   ·rename_i as' has;simp only[Option.some.injEq]at h;subst h;obtain⟨h1,h2⟩:=znu has;refine⟨by simp[h1],λk a' hk=>?_⟩
    cases k with
    |zero=>
     simp only[List.getElem?_cons_zero,Option.some.injEq]at hk;subst hk;exact⟨d,rfl,ha⟩
    |succ k=>
     obtain⟨d',h3,h4⟩:=h2 k a' (by simpa using hk)
     exact⟨d',by simpa using h3,by rw[show o+(k+1)=o+1+k by omega];exact h4⟩
   ·cases h
  ·cases h
theorem Sim.elem[Base]{g:G}{e:Env}{tm:Array Value}{w:World}(h:Sim g e tm w){l:Loc}{z:Nat}{xs:List D}(hl:e.ownAt l=some (.sl z xs)){i:Nat}{x:D}(hx:xs[i]? =some x):
 ∃b cap,ConcV g tm w l (.slice (some ⟨b,0,none⟩) xs.length cap)/\x.cells.length=z/\ ∀o d,x.cells[o]? =some d-> ∃u U,w.cell? ⟨b,i*z+o,none⟩=some u/\u.oneCell' =true/\OwnC w d u U:=by
 obtain⟨v,U,hcv,ho,_,_⟩:=h.ownAt hl
 cases ho with
 |flat hf _=>simp[D.flat]at hf
 |nil=>simp at hx
 | @row z xs b cap el cur T Us h1 h2 h3 h4 h5 h6 h7 h8 h9 h10 h11=>
   refine⟨b,cap,hcv,h9 x (List.mem_of_getElem? hx),λo d hd=>?_⟩
   have hcell:=zee h9 hx hd;have hlt:=(List.getElem?_eq_some_iff.1 hcell).1;rw[zat h9]at hlt;have hcs:i*z+o<cur.size:=by rw[h2];exact Nat.lt_of_lt_of_le hlt (Nat.mul_le_mul_right _ h3)
   exact⟨_,_,h1.cell hcs,h10 _ hlt,h11 _ _ hcell⟩
theorem ziy[Base]{g:G}{e:Env}{tm:Array Value}{w:World}{Y:Nat->Blk}{as:List A}{v:Value}(h:HoldV g e tm w Y (.agg as) v):HoldV g e tm w Y (zpr as) v:=by
 unfold zpr;split
 ·rename_i ds hds;obtain⟨vs,rfl,h1,h2⟩:=h
  have hr:∀(as:List A) (ds:List D),zoo as=some ds->as=ds.map .ro:=by
   intro as
   induction as with
   |nil=>intro ds h;cases h;rfl
   |cons a r ih=>
    intro ds h
    cases a with
    |ro d=>
     simp only[zoo]at h;split at h
     ·rename_i ds' hds';cases h;rw[ih _ hds'];rfl
     ·cases h
    |_=>cases h
  obtain rfl:=hr as ds hds;rw[List.length_map]at h1;refine .agg h1 (λm hm=>?_) (λm d hd=>?_)
  ·exact(h2 m (.ro ds[m]) (by simp[hm])).1
  ·exact(h2 m (.ro d) (by simp[hd])).2
 ·exact h
theorem zu5[Base]{g:G}{e:Env}{tm:Array Value}{w:World}(h:Sim g e tm w){P:Program}{t:TypeId}{n:Nat}{p:A}{v:Value}{V:V}{s:Slot}(hs:zbj P t=some n)(hp:RepA g e tm w s p v)(hl:zf6 e (zbi P t) n p=some V):
 ∃u,(Instr.loadAt t v).run P w=.ok u w/\HoldV g e tm w (λ_ _=>False) V u:=by
 cases p with
 |ptr b o=>
  simp only[zf6]at hl;split at hl
  ·rename_i hlt;split at hl
   ·rename_i cs hcs;have hbs:(e.box b).isSome=true:=by rw[hcs];rfl
    obtain rfl:=hp hbs hlt;have hbx:=h.bx b cs hcs;unfold RepBox at hbx;rw[if_neg (by omega)]at hbx
    obtain⟨arr,el,h1,h2,h3⟩:=hbx
    have hcell:∀m,m<cs.length->w.cell? ⟨g.β b,m,none⟩=some (arr.getD m undef):=by
     intro m hm;have:m<arr.size:=by omega
     simp[World.cell?,h1,this]
    split at hl
    ·rename_i hagg;split at hl
     ·rename_i hle;simp only[Option.some.injEq]at hl;subst hl;refine⟨_,zo0 hs hagg (us:=λm=>arr.getD (o+m) undef) (λm hm=>hcell (o+m) (by omega)),ziy ⟨_,rfl,?_,λk a ha=>?_⟩⟩
      ·simp[zkb];omega
      ·rw[zp9]at ha;rw[List.getElem?_take,List.getElem?_drop]at ha;split at ha
       ·rename_i hk
        cases hq:cs[o+k]? with
        |none=>rw[hq]at ha;cases ha
        |some a' =>
         rw[hq]at ha;simp only[Option.map_some,Option.some.injEq]at ha;subst ha;obtain⟨k1,k2,k3⟩:=h3 _ _ hq;rw[zhc n _ k hk];exact⟨k2,zqa k1 hlt (hcell _ (by omega)) k3⟩
       ·cases ha
     ·cases hl
    ·rename_i hagg;split at hl
     ·rename_i a ha;simp only[Option.some.injEq]at hl;subst hl;obtain⟨k1,k2,k3⟩:=h3 _ _ ha;have ho:=(List.getElem?_eq_some_iff.1 ha).1;exact⟨_,zoz hs (by simpa using hagg) (hcell o ho),zqa k1 hlt (hcell o ho) k3⟩
     ·cases hl
   ·cases hl
  ·cases hl
 |rptr ds=>
  obtain⟨b,off,rfl,hd⟩:=hp;simp only[zf6]at hl;split at hl
  ·rename_i hagg;split at hl
   ·rename_i hle;simp only[Option.some.injEq]at hl;subst hl
    have hd':∀m,∃u,m<n->(g.c b (off+m)=some u/\u.oneCell' =true/\ ∀d,ds[m]? =some d->RO g.c d u):=by
     intro m;by_cases hm:m<n
     ·have hlt:m<ds.length:=by omega
      obtain⟨u,k1,k2,k3⟩:=hd m _ (List.getElem?_eq_getElem hlt);refine⟨u,λ_=>⟨k1,k2,λd hd=>?_⟩⟩
      rw[List.getElem?_eq_getElem hlt]at hd;obtain rfl:=Option.some.inj hd;exact k3
     ·exact⟨undef,λh=>absurd h hm⟩
    obtain⟨us,hus⟩:=Classical.axiomOfChoice hd';refine⟨_,zo0 hs hagg (us:=us) (λm hm=>h.cmem _ _ _ (hus m hm).1),.agg (by simp[hle]) (λm hm=>?_) (λm d hm=>?_)⟩
    ·have:m<n:=by simp at hm;omega
     rw[zhc n us m this];exact(hus m this).2.1
    ·rw[List.getElem?_take]at hm;split at hm
     ·rename_i hk;rw[zhc n us m hk];exact(hus m hk).2.2 d hm
     ·cases hm
   ·cases hl
  ·rename_i hagg;split at hl
   ·rename_i d r;simp only[Option.some.injEq]at hl;subst hl;obtain⟨u,k1,k2,k3⟩:=hd 0 d rfl;exact⟨u,zoz hs (by simpa using hagg) (h.cmem _ _ _ k1),k3⟩
   ·cases hl
 |eptr l z i o=>
  simp only[zf6]at hl;split at hl
  ·rename_i z' xs hown;split at hl
   ·rename_i hz;subst hz;split at hl
    ·rename_i x hx;obtain⟨b,cap,hcv,hxz,hcells⟩:=h.elem hown hx;obtain⟨b',n',cap',hcv',rfl⟩:=hp xs hown (List.getElem?_eq_some_iff.1 hx).1;have:=hcv.det hcv';simp only[Value.slice.injEq,Option.some.injEq,Addr.mk.injEq,and_true]at this;obtain⟨rfl,_,_⟩:=this;split at hl
     ·rename_i hagg;split at hl
      ·rename_i hle;split at hl
       ·rename_i as has;simp only[Option.some.injEq]at hl;subst hl;obtain⟨k1,k2⟩:=znu has
        have hd':∀m,∃u,m<n->(w.cell? ⟨b,i*z+o+m,none⟩=some u/\u.oneCell' =true/\ ∀d,x.cells[o+m]? =some d-> ∃U,OwnC w d u U):=by
         intro m;by_cases hm:m<n
         ·have hlt:o+m<x.cells.length:=by omega
          obtain⟨u,U,q1,q2,q3⟩:=hcells _ _ (List.getElem?_eq_getElem hlt);refine⟨u,λ_=>⟨by rw[Nat.add_assoc];exact q1,q2,λd hd=>?_⟩⟩
          rw[List.getElem?_eq_getElem hlt]at hd;obtain rfl:=Option.some.inj hd;exact⟨U,q3⟩
         ·exact⟨undef,λh=>absurd h hm⟩
        obtain⟨us,hus⟩:=Classical.axiomOfChoice hd';refine⟨_,zo0 hs hagg (us:=us) (λm hm=>(hus m hm).1),ziy ⟨_,rfl,?_,λk a ha=>?_⟩⟩
        ·simp[k1];omega
        ·obtain⟨d,q1,q2⟩:=k2 k a ha;rw[List.getElem?_take,List.getElem?_drop]at q1;split at q1
         ·rename_i hk;rw[zhc n us k hk];obtain⟨p1,p2,p3⟩:=hus k hk;obtain⟨U,hU⟩:=p3 d q1;exact⟨p2,znt q2 hcv (by rw[<-Nat.add_assoc];exact p1) hU⟩
         ·cases q1
       ·cases hl
      ·cases hl
     ·rename_i hagg;split at hl
      ·rename_i d hd;split at hl
       ·rename_i a ha;simp only[Option.some.injEq]at hl;subst hl;obtain⟨u,U,q1,q2,q3⟩:=hcells _ _ hd;exact⟨u,zoz hs (by simpa using hagg) q1,znt ha hcv q1 q3⟩
       ·cases hl
      ·cases hl
    ·cases hl
   ·cases hl
  ·cases hl
 |_=>cases hl
end Go.Qz
namespace Go.Qz
theorem RO.oneCell{c:Mem}{d:D}{v:Value}(h:RO c d v)(h1:v.oneCell' =true):d.cells=[d]:=by
 cases h with
 |agg _ _ _=>simp[Value.oneCell']at h1
 |_=>rfl
theorem OwnC.oneCell{w:World}{d:D}{v:Value}{T:Blk}(h:OwnC w d v T)(h1:v.oneCell' =true):d.cells=[d]:=by
 cases h with
 |flat _ h=>exact h.oneCell h1
 |agg _ _ _ _ _ _=>simp[Value.oneCell']at h1
 |_=>rfl
theorem zkc{v:Value}(h:v.oneCell' =true):v.cells= #[v]:=by cases v<;>first|rfl|simp[Value.oneCell']at h
theorem RO.notAgg{c:Mem}{d:D}{v:Value}(h:RO c d v)(hd:∀ds,d≠.agg ds):v.oneCell' =true:=by
 cases h with
 |agg _ _ _=>exact absurd rfl (hd _)
 |hole hv=>exact hv
 |bs hv=>exact hv
 |seq hv=>exact hv
 |_=>rfl
theorem OwnC.parts{w:World}{d:D}{v:Value}{T:Blk}(h:OwnC w d v T):∃U:Nat->Blk,v.cells.size=d.cells.length/\(∀m x,U m x->T x)/\(∀m m' x,U m x->U m' x->m=m')/\(∀m,m<d.cells.length->(v.cells.getD m undef).oneCell' =true)/\
 ∀m dm,d.cells[m]? =some dm->OwnC w dm (v.cells.getD m undef) (U m):=by
 have one:d.cells=[d]->v.oneCell' =true-> ∃U:Nat->Blk,v.cells.size=d.cells.length/\(∀m x,U m x->T x)/\(∀m m' x,U m x->U m' x->m=m')/\(∀m,m<d.cells.length->(v.cells.getD m undef).oneCell' =true)/\
  ∀m dm,d.cells[m]? =some dm->OwnC w dm (v.cells.getD m undef) (U m):=by
  intro hd hv;rw[hd,zkc hv];refine⟨λm=>if m=0 then T else λ_=>False,rfl,λm x hx=>?_,λm m' x hx hx' =>?_,λm hm=>?_,λm dm hm=>?_⟩
  ·by_cases e:m=0
   ·simp only[if_pos e]at hx;exact hx
   ·simp only[if_neg e]at hx
  ·by_cases e:m=0<;>by_cases e':m' =0<;>simp[e,e']at hx hx' ⊢
  ·obtain rfl:m=0:=by simp at hm;exact hm
   exact hv
  ·cases m with
   |zero=>
    simp only[List.getElem?_cons_zero,Option.some.injEq]at hm;subst hm;simp only[if_pos];exact h
   |succ m=>simp at hm
 cases h with
 |flat hf hr=>
  cases hr with
  |agg h1 h2 h3=>
   refine⟨λ_ _=>False,h1,λ_ _ h=>h.elim,λ_ _ _ h=>h.elim,h2,λm dm hm=>.flat (zgl (l:=_) (show flats (D.cells (.agg _))=true from(by simpa only[D.flat,D.cells]using hf)) (List.mem_of_getElem? hm)) (h3 m dm hm)⟩
  |sl0=>simp[D.flat]at hf
  |sl _ _ _ _ _=>simp[D.flat]at hf
  |hole hv=>simp[D.flat]at hf
  |bs hv=>simp[D.flat]at hf
  |seq hv=>simp[D.flat]at hf
  |_=>exact one rfl rfl
 |hole hv=>exact one rfl hv
 |bs h1 _=>exact one rfl (zh4 h1)
 |seq _ _=>exact one rfl rfl
 |clo _ _ _ _ _=>exact one rfl rfl
 |nil=>exact one rfl rfl
 |row _ _ _ _ _ _ _ _ _ _ _ _=>exact one rfl rfl
 |agg U h1 h2 h3 h4 h5=>exact⟨U,h1,h2,h3,h4,h5⟩
theorem zo1:∀{p:Path} {D0 d':D} {z:Nat} {xs':List D},p≠[]->D0.repl p d' =.sl z xs' -> ∃xs,D0=.sl z xs/\xs'.length<=xs.length
 | [],_,_,_,_,h,_=>absurd rfl h
 |(z1,i1,o1)::p,D0,d',z,xs',_,e=>by
  simp only[D.repl]at e;split at e
  ·rename_i c hc
   cases D0 with
   |sl z2 ys=>
    simp only[D.setAt]at e;split at e
    ·split at e
     ·cases e;exact⟨ys,rfl,by simp⟩
     ·cases e;exact⟨_,rfl,Nat.le_refl _⟩
    ·cases e;exact⟨_,rfl,Nat.le_refl _⟩
   |_=>simp[D.cellAt]at hc
  ·exact⟨xs',e,Nat.le_refl _⟩
theorem zqb{q:Nat×Nat×Nat}{d:D}:∀{p:Path} {D0 D1:D},D0.sub p=some D1->D0.repl (p++[q]) d=D0.repl p (D1.repl [q] d)
 | [],D0,D1,h=>by
   simp only[D.sub,Option.some.injEq]at h;subst h;rfl
 |(z,i,o)::p,D0,D1,h=>by
  simp only[D.sub]at h;split at h
  ·rename_i c hc;have ih:=zqb (q:=q) (d:=d) h;rw[List.cons_append];rw[show D0.repl ((z,i,o)::(p++[q])) d=D0.setAt z i o (c.repl (p++[q]) d) by simp only[D.repl,hc]]
   rw[ih];rw[show D0.repl ((z,i,o)::p) (D1.repl [q] d)=D0.setAt z i o (c.repl p (D1.repl [q] d)) by simp only[D.repl,hc]]
  ·cases h
theorem zqc{z i o:Nat}{d c c':D}(h:d.cellAt z i o=some c)(h1:c'.cells=[c']):(d.setAt z i o c').cellAt z i o=some c':=by
 cases d with
 |sl z' xs=>
  simp only[D.cellAt]at h;split at h
  ·rename_i hz;split at h
   ·rename_i x hx;have ho:=(List.getElem?_eq_some_iff.1 h).1;have hi:=(List.getElem?_eq_some_iff.1 hx).1;simp only[D.setAt,hx,if_pos hz,D.cellAt,List.getElem?_set_self hi,ziu h1 ho,List.getElem?_set_self ho]
   ·cases h
  ·cases h
 |_=>simp[D.cellAt]at h
theorem zkx:∀{p:Path} {D0 D1 D2:D},D0.sub p=some D1->(p≠[]->D2.cells=[D2])->(D0.repl p D2).sub p=some D2
 | [],_,_,_,_,_=>rfl
 |(z,i,o)::p,D0,D1,D2,h,h1=>by
  simp only[D.sub]at h;split at h
  ·rename_i c hc;have ih:=zkx (D2:=D2) h (λ_=>h1 (by simp))
   have hone:(c.repl p D2).cells=[c.repl p D2]:=by
    cases p with
    |nil=>exact h1 (by simp)
    |cons q r=>
     obtain⟨z2,i2,o2⟩:=q
     cases c with
     |sl z3 ys=>exact zu4 rfl (h1 (by simp))
     |_=>simp[D.sub,D.cellAt]at h
   simp only[D.repl,hc,D.sub,zqc hc hone,ih]
  ·cases h
theorem zf8(e:Env){f:A->A}{r:Root}{D0 D1:D}(h:e.root r=.own D0):((e.mapA f).setRoot r (.own D1)).root r=.own D1:=by
 cases r with
 |tmp t=>simp[Env.root,zbf]
 |cell b o=>
  simp only[Env.root,za1,if_pos];simp only[Env.root]at h;split at h
  ·rename_i cs hcs;rw[hcs];simp only[Option.map_some];rw[List.getD_eq_getElem?_getD]at h ⊢
   have hlt:o<cs.length:=by
    rcases Nat.lt_or_ge o cs.length with hl|hl
    ·exact hl
    ·rw[List.getElem?_eq_none hl]at h;cases h
   rw[List.getElem?_set_self hlt];rfl
  ·cases h
theorem Sim.pokeElem[Base]{g:G}{e:Env}{tm:Array Value}{w:World}(h:Sim g e tm w){l:Loc}{z i o:Nat}{xs:List D}{x d:D}{u:Value}{Y:Blk}(hl:e.ownAt l=some (.sl z xs))(hx:xs[i]? =some x)(ho:o<x.cells.length)(hu:u.oneCell' =true)
 (hd:OwnC w d u Y) (hf:FreeB g e w Y) {b cap:Nat} (hcv:ConcV g tm w l (.slice (some ⟨b,0,none⟩) xs.length cap)):
 ∃g',Sim g' (e.setLoc ⟨l.root,l.path++[(z,i,o)]⟩ d) tm (w.setCell ⟨b,i*z+o,none⟩ u)/\g'.c=g.c/\g'.β=g.β/\g'.γ=g.γ/\(∀s x,g'.S s x->g.S s x∨Y x)/\g.S l.root.slot b/\
  (e.setLoc ⟨l.root,l.path++[(z,i,o)]⟩ d).ownAt l=some (.sl z (xs.set i (x.withCells (x.cells.set o d))))/\ConcV g' tm (w.setCell ⟨b,i*z+o,none⟩ u) l (.slice (some ⟨b,0,none⟩) xs.length cap):=by
 have hl0:=hl;simp only[Env.ownAt]at hl;split at hl
 ·rename_i D0 hD;obtain⟨V,hV,hown⟩:=h.rootOwn hD;obtain⟨v,U,hpv,hod,hU,hpf,hre⟩:=hown.focus hl;have hd1:=hd.oneCell hu;have hdis:∀x,Y x->U x->False:=λx hy hu=>hf.S _ x hy (hU x hu)
  obtain⟨b',cap',rfl,hUb,_,_,hpoke⟩:=hod.poke hx ho hd1 hu hd hdis;have:=hcv.det ⟨V,hV,hpv⟩;simp only[Value.slice.injEq,Option.some.injEq,Addr.mk.injEq,and_true,true_and]at this;obtain⟨rfl,rfl⟩:=this;have hSb:=hU _ hUb;have hheap:∀x,x≠b->(w.setCell ⟨b,i*z+o,none⟩ u).heap[x]? =w.heap[x]?:=λx hx=>zca w _ u x hx
  have ecell:(D.sl z xs).cellAt z i o=some x.cells[o]:=by simp[D.cellAt,hx,List.getElem?_eq_getElem ho]
  have erepl:(D.sl z xs).repl [(z,i,o)] d=.sl z (xs.set i (x.withCells (x.cells.set o d))):=by
   simp only[D.repl,ecell,D.setAt,hx,if_pos]
  have hset:e.setLoc ⟨l.root,l.path++[(z,i,o)]⟩ d=(e.mapA (A.turn l.root)).setRoot l.root (.own (D0.repl l.path (.sl z (xs.set i (x.withCells (x.cells.set o d)))))):=by
   simp only[Env.setLoc,hD,zqb hl,erepl]
  have hnew:=hre (w.setCell ⟨b,i*z+o,none⟩ u) _ _ (λx hx hn=>hheap x (λe=>hn (e▸hUb))) hpoke (λ_=>rfl) (λx hx hT=>hx.elim id (λhy=>(hf.S _ x hy hT).elim))
  have hlen:∀z' xs',D0.repl l.path (.sl z (xs.set i (x.withCells (x.cells.set o d))))=.sl z' xs' -> ∃xs0,D0=.sl z' xs0/\xs'.length<=xs0.length:=by
   intro z' xs' e1
   cases hp:l.path with
   |nil=>
    rw[hp]at e1 hl;simp only[D.repl,D.sl.injEq]at e1;simp only[D.sub,Option.some.injEq]at hl;obtain⟨rfl,rfl⟩:=e1;exact⟨xs,hl,by simp⟩
   |cons q p=>
    rw[hp]at e1;exact zo1 (by simp) e1
  have hS':∀x,((g.S l.root.slot x/\ ¬U x)∨(U x∨Y x))->g.S l.root.slot x∨Y x:=λx hx=>hx.elim (λh=>.inl h.1) (λh=>h.elim (λh=>.inl (hU x h)) .inr)
  rw[hset];refine⟨_,h.turn hD hV _ hnew hlen (by rw[zcb];exact Nat.le_refl _) (λx _ hn=>hheap x (λe=>hn (e▸hSb))) (λx s hx hs=>?_) (λx b' hx hb hlt=>?_) (λx hx=>?_) (λx o v hx hv=>?_),rfl,rfl,rfl,λs x hx=>?_,hSb,?_,?_⟩
  ·rcases hS' x hx with h1|h1
   ·exact h.sdis _ _ _ hs h1
   ·exact(hf.S _ x h1 hs).elim
  ·rcases hS' x hx with h1|h1
   ·exact h.sbox _ b' x h1 hb hlt
   ·exact hf.box x b' h1 hb hlt
  ·rw[zcb];rcases hS' x hx with h1|h1
   ·exact h.slt _ x h1
   ·exact hf.lt x h1
  ·rcases hS' x hx with h1|h1
   ·exact(h.cdis x o v hv).1 _ h1
   ·exact hf.c x o v h1 hv
  ·by_cases e1:s=l.root.slot
   ·subst e1;rw[zal]at hx;exact hS' x hx
   ·rw[zae g _ e1]at hx;exact .inl hx
  ·simp only[Env.ownAt,zf8 e hD];exact zkx hl (λ_=>rfl)
  ·refine⟨V,?_,hpf _ (λx hx hn=>hheap x (λe=>hn (e▸hUb)))⟩
   cases hr:l.root with
   |tmp t=>rw[hr]at hV;exact hV
   |cell b2 o2=>
    rw[hr]at hV hD;simp only[RootV]at hV ⊢;split
    ·rename_i hg;rw[if_pos hg]at hV;exact hV
    ·rename_i hg;rw[if_neg hg]at hV
     have hs:(e.box b2).isSome=true:=by
      simp only[Env.root]at hD;split at hD
      ·rename_i cs hcs;rw[hcs];rfl
      ·cases hD
     show (w.setCell _ u).cell? ⟨g.β b2,o2,none⟩=some V;rw[World.cell?_of_block (w':=w.setCell ⟨b,i*z+o,none⟩ u) (w:=w) (hheap _ (λe2=>h.sbox _ b2 _ hSb hs (by omega) e2))]
     exact hV
 ·cases hl
theorem ziz(e:Env)(l:Loc)(d:D)(b:Nat):((e.setLoc l d).box b).isSome=(e.box b).isSome:=zfa e l d b
theorem zqd[Base]{tm:Array Value}{l:Loc}{z i b cap:Nat}:∀{ds:List D} {us:List Value} {g:G} {e:Env} {w:World} {o:Nat} {xs:List D} {x:D} {Y:Nat->Blk},Sim g e tm w->e.ownAt l=some (.sl z xs)->xs[i]? =some x->o+ds.length<=x.cells.length->us.length=ds.length->
 (∀u∈us,u.oneCell' =true)->(∀k d u,ds[k]? =some d->us[k]? =some u->OwnC w d u (Y k))->Free g e w Y->ConcV g tm w l (.slice (some ⟨b,0,none⟩) xs.length cap)->
 ∃g',Sim g' (zk2 e l z i o ds) tm (zdv w b (i*z+o) us)/\g'.c=g.c/\g'.β=g.β/\g'.γ=g.γ/\(∀s x,g'.S s x->g.S s x∨ ∃k,Y k x)/\(∀b,((zk2 e l z i o ds).box b).isSome=(e.box b).isSome)/\(ds≠[]->g.S l.root.slot b)
 | [],us,g,e,w,o,xs,x,Y,h,_,_,_,hl,_,_,_,_=>by
   obtain rfl:us=[]:=List.eq_nil_of_length_eq_zero (by simpa using hl)
   exact⟨g,h,rfl,rfl,rfl,λ_ _ hx=>.inl hx,λ_=>rfl,λh=>absurd rfl h⟩
 |d::r,[],_,_,_,_,_,_,_,_,_,_,_,hl,_,_,_,_=>by simp at hl
 |d::r,u::us,g,e,w,o,xs,x,Y,h,hown,hx,ho,hl,hu,hh,hf,hcv=>by
  have ho':o<x.cells.length:=by simp at ho;omega
  have hu0:=hu u List.mem_cons_self;have hd0:=hh 0 d u rfl rfl;have hf0:FreeB g e w (Y 0):=⟨hf.S 0,hf.box 0,hf.lt 0,hf.c 0⟩;obtain⟨g1,h1,hc,hβ,hγ,hS,hSb,hown1,hcv1⟩:=h.pokeElem hown hx ho' hu0 hd0 hf0 hcv;have hi:=(List.getElem?_eq_some_iff.1 hx).1;have hYb:∀k x,Y k x->x≠b:=λk x hx e1=>hf.S k _ x hx (e1▸hSb)
  have hcl:(x.withCells (x.cells.set o d)).cells.length=x.cells.length:=by rw[ziu (hd0.oneCell hu0) ho'];simp
  have hf1:Free g1 (e.setLoc ⟨l.root,l.path++[(z,i,o)]⟩ d) (w.setCell ⟨b,i*z+o,none⟩ u) (λk=>Y (k+1)):=by
   refine⟨λk k' x hx hx' =>by have:=hf.one (k+1) (k' +1) x hx hx';omega,λk s x hx hs=>?_,λk x b' hx hb' hlt' =>?_,λk x hx=>?_,λk x o v hx hv=>hf.c (k+1) x o v hx (by rw[<-hc];exact hv)⟩
   ·rcases hS s x hs with hs|hy
    ·exact hf.S (k+1) s x hx hs
    ·have:=hf.one (k+1) 0 x hx hy;omega
   ·rw[ziz]at hb';rw[hβ];exact hf.box (k+1) x b' hx hb' hlt'
   ·rw[zcb];exact hf.lt (k+1) x hx
  obtain⟨g2,h2,hc2,hβ2,hγ2,hS2,hbx2,_⟩:=zqd (ds:=r) (us:=us) (o:=o+1) (x:=x.withCells (x.cells.set o d)) h1 hown1 (List.getElem?_set_self hi) (by rw[hcl];have:=ho;simp only[List.length_cons]at this;omega) (by simpa using hl) (λu hu' =>hu u (List.mem_cons_of_mem _ hu'))
   (λk d' u' hd' hu' =>(hh (k+1) d' u' (by simpa using hd') (by simpa using hu')).frame (λx hx=>zca w _ u x (hYb _ x hx))) hf1 (by simpa using hcv1)
  refine⟨g2,?_,hc2.trans hc,hβ2.trans hβ,hγ2.trans hγ,λs x hx=>?_,λb' =>?_,λ_=>hSb⟩
  ·simp only[zk2,zdv];exact h2
  ·rcases hS2 s x hx with hs|⟨k,hy⟩
   ·rcases hS s x hs with hs|hy
    ·exact .inl hs
    ·exact .inr ⟨0,hy⟩
   ·exact .inr ⟨k+1,hy⟩
  ·simp only[zk2];rw[hbx2 b',ziz]
end Go.Qz
