import Derived.Test.YtddfkpkieamlpaaGreatDoorQi0
import Derived.Lib.AppendStr
namespace Go.Qz
theorem zhd{P:Program}{u el:TypeId}(hu:P.underlying u=some (.slice el)){a:Option Addr}{n cap z:Nat}{w:World}{uf:Nat->Value}(h:0<n-> ∃b off,a=some ⟨b,off,none⟩/\ ∀m,m<n*z->w.cell? ⟨b,off+m,none⟩=some (uf m)):
 Apps P u (.slice a n cap) z n ((List.range (n*z)).map uf) w:=by
 refine⟨.inl ⟨el,hu⟩,λw' =>rfl,λw' hw' =>?_⟩
 rcases Nat.eq_zero_or_pos n with rfl|hn
 ·cases a<;>simp[Builtin.firstCells,loadCells,loadCellsFrom]
 ·obtain⟨b,off,rfl,hc⟩:=h hn;have:=run_loadCells (P:=P) w' ⟨b,off,none⟩ (n*z) uf (λj hj=>by rw[zcg,World.cell?_of_block (w':=w') (w:=w) (hw' b)];exact hc j hj)
  simpa [Builtin.firstCells]using this
theorem zju{n:Nat}{uf:Nat->Value}{m:Nat}(h:m<n):((List.range n).map uf).getD m undef=uf m:=by
 simp[List.getD_eq_getElem?_getD,h]
theorem Sim.learn[Base]{g:G}{e:Env}{tm:Array Value}{w:World}(h:Sim g e tm w)(c':Mem)(h1:g.c.le c')(h2:c'.le (zbc w))(h3:∀b o v,c' b o=some v->g.c b o=some v∨ ¬Mine g e b):Sim {g with c:=c'} e tm w:=by
 have K:zcy g e tm w {g with c:=c'} e tm w (λ_=>True) (λ_=>True):=by
  refine⟨h1,λl _ d' hd' =>⟨d',hd',λz xs' e=>⟨xs',e,Nat.le_refl _⟩,λv hv=>?_⟩,λb _ hb _=>⟨hb,rfl⟩⟩
  obtain⟨V,hV,hp⟩:=hv;refine⟨V,?_,hp⟩
  cases hq:l.root with
  |tmp t=>rw[hq]at hV;exact hV
  |cell b o=>rw[hq]at hV;exact hV
 exact{
  size:=h.size
  tv:=λt=>(h.tv t).keep K (λk x hx=>⟨hx,rfl⟩)
  bx:=λb cs hcs=>(h.bx b cs hcs).keep K (λo x hx=>⟨hx,rfl⟩) (λ_=>⟨rfl,rfl⟩) (λ_=>rfl)
  binj:=h.binj
  sdis:=h.sdis
  sbox:=h.sbox
  slt:=h.slt
  cmem:=h2
  base:=λb o v hv=>h1 _ _ _ (h.base b o v hv)
  fix:=h.fix
  cdis:=λb o v hv=>by
   rcases h3 b o v hv with h4|h4
   ·exact h.cdis b o v h4
   ·exact⟨λs hs=>h4 (.inl ⟨s,hs⟩),λid hid hlt e=>h4 (.inr ⟨id,hid,hlt,e⟩)⟩}
open Classical in
theorem zzo[Base]{g g2:G}{e e2:Env}{tm:Array Value}{w w':World}(s1:Sim g2 e2 tm w)(hn:Next g e w g2 e2 w){T:Blk}(hfT:FreeB g2 e2 w T)(hT:∀x,T x->Mine g e x∨w.heap.size<=x)
 {B:Nat} (hB:T B∨w.heap.size<=B) (hsz:w.heap.size<=w'.heap.size) (hold:∀x,x<w.heap.size->x≠B->w'.heap[x]? =w.heap[x]?) (hos:w'.os=w.os) (htape:w'.tape=w.tape) (hout:w'.output=w.output)
 {cells:Array Value} {el:TypeId} (hblk:RowAt w' B cells el) {zs:List D} {z cap:Nat} (hcap:zs.length<=cap) (hzs:∀x∈zs,x.cells.length=z)
 (hcell:∀m,m<zs.length*z->m<cells.size/\(cells.getD m undef).oneCell' =true) (hin:∀m d,(zs.flatMap D.cells)[m]? =some d-> ∃U:Blk,(∀x,U x->T x/\x≠B)/\OwnC w d (cells.getD m undef) U):
 Holds g e tm w (.one (.ro (.sl z zs))) (.slice (some ⟨B,0,none⟩) zs.length cap) e2 w':=by
 have hmn:∀x,T x-> ¬Mine g2 e2 x:=by
  rintro x hx (⟨s,hs⟩|⟨b,hb,hlt,e1⟩)
  ·exact hfT.S s x hx hs
  ·exact hfT.box x b hx hb hlt e1
 have hmlt:∀x,Mine g2 e2 x->x<w.heap.size:=by
  rintro x (⟨s,hs⟩|⟨b,hb,hlt,rfl⟩)
  ·exact s1.slt s x hs
  ·obtain⟨cs,hcs⟩:=Option.isSome_iff_exists.1 hb;have:=s1.bx b cs hcs;unfold RepBox at this;rw[if_neg (by omega)]at this
   obtain⟨arr,e2,q1,_⟩:=this;exact(Array.getElem?_eq_some_iff.1 q1).1
 have hBm:¬Mine g2 e2 B:=λhm=>hB.elim (λh=>hmn B h hm) (λh=>by have:=hmlt B hm;omega)
 have hBc:∀o v,g2.c B o=some v->False:=λo v hv=>hB.elim (λh=>hfT.c B o v h hv) (λh=>by
  have:=World.block_lt_of_cell? w _ (s1.cmem B o v hv);simp only at this
  omega)
 have hs':Sim g2 e2 tm w':=s1.world hsz (λx hx hm=>hold x hx (λe1=>by
  subst e1;rcases hm with hm|⟨o,v,hv⟩
  ·exact hBm hm
  ·exact hBc o v hv))
 have hle:g2.c.le (λb o=>if T b∨b=B then zbc w' b o else g2.c b o):=λb o v hv=>by
  have:¬(T b∨b=B):=by
   rintro(h|rfl)
   ·exact hfT.c b o v h hv
   ·exact hBc o v hv
  simp only[if_neg this];exact hv
 have hl:=hs'.learn (λb o=>if T b∨b=B then zbc w' b o else g2.c b o) hle
  (λb o v hv=>by
   have hv':(if T b∨b=B then zbc w' b o else g2.c b o)=some v:=hv
   split at hv'
   ·exact hv'
   ·exact hs'.cmem b o v hv')
  (λb o v hv=>by
   have hv':(if T b∨b=B then zbc w' b o else g2.c b o)=some v:=hv
   split at hv'
   ·rename_i hb;exact .inr (hb.elim (hmn b) (λe1=>e1▸hBm))
   ·exact .inl hv')
 have hro:RO (λb o=>if T b∨b=B then zbc w' b o else g2.c b o:Mem) (.sl z zs) (.slice (some ⟨B,0,none⟩) zs.length cap):=by
  refine .sl (λm=>cells.getD m undef) hcap hzs (λm hm=>?_) (λm d hd=>?_)
  ·obtain⟨h1,h2⟩:=hcell m hm;refine⟨?_,h2⟩;rw[if_pos (.inr rfl),Nat.zero_add];show w'.cell? ⟨B,m,none⟩=_;exact hblk.cell h1
  ·obtain⟨U,hU,ho⟩:=hin m d hd
   exact(ho.frame (w':=w') (λx hx=>hold x (hfT.lt x (hU x hx).1) (hU x hx).2)).toRO (λb o u hb hu=>by
    rw[if_pos (.inl (hU b hb).1)]
    exact hu)
 refine⟨_,λ_ _=>False,hl,hro,zaw _ _ _,⟨hos.trans hn.os,htape.trans hn.tape,hout.trans hn.output,Nat.le_trans hn.size hsz,λx hx hm=>?_,λx hx=>hn.mine x hx,λb o v hv=>hle b o v (hn.c b o v hv),λb o v hv=>?_,hn.lent⟩,λ_ _ h=>h.elim⟩
 ·have hxB:x≠B:=λe1=>by
   subst e1;rcases hB with h|h
   ·rcases hT x h with h1|h1
    ·exact hm h1
    ·omega
   ·omega
  rw[hold x hx hxB]
 ·have hv':(if T b∨b=B then zbc w' b o else g2.c b o)=some v:=hv
  split at hv'
  ·rename_i hb;rcases hb with hb|rfl
   ·exact .inr (hT b hb)
   ·rcases hB with h|h
    ·exact .inr (hT b h)
    ·exact .inr (.inr h)
  ·exact hn.cnew b o v hv'
theorem zzp[Base]{P:Program}{g g2:G}{e e2:Env}{tm:Array Value}{w:World}(s1:Sim g2 e2 tm w)(hn:Next g e w g2 e2 w){t u ty el eu:TypeId}{i:TypeInfo}{zv:Value}(ht:P.underlying t=some (.slice el))(hu:P.underlying u=some (.slice eu))(hi:P.info? el=some i)(hzv:i.zero=some zv)
 (_:0<i.size) (hby:i.bytes<=128) (_:zv.cells.size=i.size) {xs:List D} {v:Value} {T:Blk} (hx:OwnC w (.sl i.size xs) v T) (hfT:FreeB g2 e2 w T) (hT:∀x,T x->Mine g e x∨w.heap.size<=x) (hne:xs≠[]) (hlen:xs.length+xs.length<=zaf):
 ∃v' w',(Builtin.append_ #[t,u] ty #[v,v]).run P w=.ok v' w' /\Holds g e tm w (.one (.ro (.sl i.size (xs++xs)))) v' e2 w':=by
 cases hx with
 |flat hf _=>simp[D.flat]at hf
 |nil=>exact absurd rfl hne
 | @row _ _ b cap el' cur _ Us p1 p2 p3 p4 p5 p6 p7 p8 p9 p10 p11=>
   have hXl:(xs.flatMap D.cells).length=xs.length*i.size:=zat p9;have hcs:∀m,m<xs.length*i.size->m<cur.size:=λm hm=>by rw[p2];exact Nat.lt_of_lt_of_le hm (Nat.mul_le_mul_right _ p3)
   have happ:=zhd (cap:=cap) (z:=i.size) (n:=xs.length) (w:=w) (a:=some ⟨b,0,none⟩) (uf:=λm=>cur.getD m undef) hu (λ_=>⟨b,0,rfl,λm hm=>by rw[Nat.zero_add];exact p1.cell (hcs m hm)⟩)
   have hlen2:(xs++xs).length=xs.length+xs.length:=List.length_append;have hnl:((List.range (xs.length*i.size)).map λm=>cur.getD m undef).length=xs.length*i.size:=by simp
   have hn1:∀u∈((List.range (xs.length*i.size)).map λm=>cur.getD m undef),u.oneCell' =true:=λu hu=>by
    obtain⟨m,hm,rfl⟩:=List.mem_map.1 hu;exact p10 m (List.mem_range.1 hm)
   have hng:∀m,m<xs.length*i.size->((List.range (xs.length*i.size)).map λm=>cur.getD m undef).getD m undef=cur.getD m undef:=λm hm=>zju hm
   generalize hnews:((List.range (xs.length*i.size)).map λm=>cur.getD m undef)=news at *
   have hxx:∀x∈xs++xs,x.cells.length=i.size:=λx hx=>(List.mem_append.1 hx).elim (p9 x) (p9 x)
   have hparts:∀(cells:Array Value),(∀m,m<xs.length*i.size->cells.getD m undef=cur.getD m undef)->(∀m,m<xs.length*i.size->cells.getD (xs.length*i.size+m) undef=cur.getD m undef)->
    (∀B,B=b∨w.heap.size<=B-> ∀m d,((xs++xs).flatMap D.cells)[m]? =some d-> ∃U:Blk,(∀x,U x->T x/\x≠B)/\OwnC w d (cells.getD m undef) U)/\ ∀m,m<(xs++xs).length*i.size->(cells.getD m undef).oneCell' =true:=λcells c1 c2=>by
    have hap:∀B,B=b∨w.heap.size<=B-> ∀m x,Us m x->T x/\x≠B:=λB hB m x hx=>⟨(p7 m x hx).1,λe1=>by
     rcases hB with rfl|hB
     ·exact(p7 m x hx).2 e1
     ·have:=hfT.lt x (p7 m x hx).1;omega⟩
    refine⟨λB hB m d hd=>?_,λm hm=>?_⟩
    ·rw[List.flatMap_append]at hd;rcases Nat.lt_or_ge m (xs.flatMap D.cells).length with hlt|hge
     ·rw[List.getElem?_append_left hlt]at hd;rw[c1 m (by rw[<-hXl];exact hlt)]
      exact⟨Us m,hap B hB m,p11 m d hd⟩
     ·rw[List.getElem?_append_right hge]at hd;have hlt2:=(List.getElem?_eq_some_iff.1 hd).1;rw[hXl]at hd hge hlt2;have h2:=c2 (m-xs.length*i.size) hlt2;rw[show xs.length*i.size+(m-xs.length*i.size)=m by omega]at h2
      rw[h2];exact⟨Us _,hap B hB _,p11 _ d hd⟩
    ·rw[hlen2,Nat.add_mul]at hm;by_cases hc:m<xs.length*i.size
     ·rw[c1 m hc];exact p10 m hc
     ·have h2:=c2 (m-xs.length*i.size) (by omega)
      rw[show xs.length*i.size+(m-xs.length*i.size)=m by omega]at h2
      rw[h2];exact p10 _ (by omega)
   by_cases hroom:xs.length+xs.length<=cap
   ·have hfit:xs.length*i.size+news.length<=cur.size:=by rw[hnl,p2,<-Nat.add_mul];exact Nat.mul_le_mul_right _ hroom
    have hr:=zke (ty:=ty) ht hi p1 happ hn1 hroom hfit;obtain⟨cur',q1,q2,q3⟩:=zlx (us:=news) (o:=xs.length*i.size) p1 hfit;have hheap:∀x,x≠b->(zdv w b (xs.length*i.size) news).heap[x]? =w.heap[x]?:=λx hx=>zfb news w _ x hx
    obtain⟨r1,r2,r3⟩:=zfc (blk:=b) news w (xs.length*i.size)
    obtain⟨k1,k2⟩:=hparts cur' (λm hm=>by rw[q3 m,if_neg (by omega)]) (λm hm=>by
     rw[q3,if_pos (by omega),Nat.add_sub_cancel_left]
     exact hng m hm)
    refine⟨_,_,hr,?_⟩
    have:=zzo (cap:=cap) s1 hn hfT hT (.inl p6) (by rw[zc8];exact Nat.le_refl _) (λx _ hx=>hheap x hx) r1 r2 r3 q1 (by rw[hlen2];exact hroom) hxx (λm hm=>⟨by
     rw[q2,p2];rw[hlen2]at hm;exact Nat.lt_of_lt_of_le hm (Nat.mul_le_mul_right _ hroom),k2 m hm⟩) (k1 b (.inl rfl))
    rw[hlen2]at this;exact this
   ·have h63:xs.length+xs.length<=9223372036854775807:=by simp only[zaf]at hlen;omega
    have hbytes:(xs.length+xs.length)*i.bytes<=140737488355328:=by
     have h1:(xs.length+xs.length)*i.bytes<=zaf*128:=Nat.mul_le_mul hlen hby;have h3:zaf*128=140737488355328:=by decide
     omega
    have hol:(cur.toList.take (xs.length*i.size)).length=xs.length*i.size:=by
     rw[List.length_take,show cur.toList.length=cur.size from Array.length_toList]
     exact Nat.min_eq_left (by rw[p2];exact Nat.mul_le_mul_right _ p3)
    have hog:∀m,m<xs.length*i.size->(cur.toList.take (xs.length*i.size)).getD m undef=cur.getD m undef:=λm hm=>by
     rw[List.getD_eq_getElem?_getD,List.getElem?_take,if_pos hm,Array.getElem?_toList,Array.getD_eq_getD_getElem?]
    have hfirst:∀w':World,(∀y:Nat,w'.heap[y]? =w.heap[y]?)->(Builtin.firstCells i.size xs.length (.slice (some ⟨b,0,none⟩) xs.length cap)).run P w' =.ok (cur.toList.take (xs.length*i.size)).toArray w':=λw' hw' =>by
     refine run_firstCells_some w' i.size xs.length ⟨b,0,none⟩ xs.length cap _ hol (λj u hj=>?_)
     rw[List.getElem?_take]at hj;split at hj
     ·rename_i hjl;rw[zcg,Nat.zero_add,World.cell?_of_block (w':=w') (w:=w) (hw' b)];rw[Array.getElem?_toList]at hj;rw[p1.cell (hcs j hjl),Array.getD_eq_getD_getElem?,hj];rfl
     ·cases hj
    have hr:=zkf (ty:=ty) ht hi hzv happ hfirst (by omega) h63 hbytes
    have hge:=grownCap_ge w (xs.length+xs.length) cap el;have hold:∀x,x<w.drew.heap.size->(w.drew.alloc (.cells ((cur.toList.take (xs.length*i.size)).toArray++news.toArray++Builtin.zeroCells zv.cells (grownCap w (xs.length+xs.length) cap el-(xs.length+xs.length))) el)).heap[x]? =w.drew.heap[x]?:=λx hx=>Go.heap_alloc_old w.drew _ x hx
    have hnew:=Go.heap_alloc_new w.drew (.cells ((cur.toList.take (xs.length*i.size)).toArray++news.toArray++Builtin.zeroCells zv.cells (grownCap w (xs.length+xs.length) cap el-(xs.length+xs.length))) el)
    have hget:∀m,m<xs.length*i.size+xs.length*i.size->((cur.toList.take (xs.length*i.size)).toArray++news.toArray++Builtin.zeroCells zv.cells (grownCap w (xs.length+xs.length) cap el-(xs.length+xs.length))).getD m undef=if m<xs.length*i.size then(cur.toList.take (xs.length*i.size)).getD m undef else news.getD (m-xs.length*i.size) undef:=by
     intro m hm;rw[Array.getD_eq_getD_getElem?,Array.getElem?_append_left (by simp only[Array.size_append,List.size_toArray,hol,hnl];exact hm)]
     by_cases hlt:m<xs.length*i.size
     ·rw[if_pos hlt,Array.getElem?_append_left (by simp only[List.size_toArray,hol];exact hlt),List.getD_eq_getElem?_getD]
      simp
     ·rw[if_neg hlt,Array.getElem?_append_right (by simp only[List.size_toArray,hol];omega),List.getD_eq_getElem?_getD]
      simp only[List.size_toArray,hol];simp
    obtain⟨k1,k2⟩:=hparts _ (λm hm=>by rw[hget m (by omega),if_pos hm,hog m hm]) (λm hm=>by
     rw[hget _ (by omega),if_neg (by omega),Nat.add_sub_cancel_left]
     exact hng m hm)
    refine⟨_,_,hr,?_⟩
    have:=zzo (w':=w.drew.alloc (.cells ((cur.toList.take (xs.length*i.size)).toArray++news.toArray++Builtin.zeroCells zv.cells (grownCap w (xs.length+xs.length) cap el-(xs.length+xs.length))) el)) (cap:=grownCap w (xs.length+xs.length) cap el) s1 hn hfT hT (.inr (Nat.le_refl _))
     (by show w.heap.size<=(w.heap.push _).size;rw[Array.size_push];omega) (λx hx _=>hold x hx) rfl rfl rfl (.of hnew) (by rw[hlen2];exact hge) hxx (λm hm=>⟨by
      rw[hlen2,Nat.add_mul]at hm;simp only[Array.size_append,List.size_toArray,hol,hnl]
      omega,k2 m hm⟩) (k1 _ (.inr (Nat.le_refl _)))
    rw[hlen2]at this;exact this
theorem zzq[Base]{g:G}{e:Env}{a:Act}{w:World}(h:Sim g e a.tmps w){x y:Operand}(hs:zla e x y=true):a.eval x=a.eval y:=by
 unfold zla at hs;split at hs
 ·rename_i tx ty;split at hs
  ·rename_i l l' hl hl';split at hs
   ·rename_i d hd;simp only[Bool.and_eq_true,beq_iff_eq,List.isEmpty_iff]at hs;obtain⟨⟨h1,h2⟩,h3⟩:=hs
    have e1:l' =l:=by
     obtain⟨r,p⟩:=l;obtain⟨r',p'⟩:=l';simp only at h1 h2 h3;rw[h1,h2,h3]
    subst e1;have v1:=h.tv tx;have v2:=h.tv ty;rw[hl]at v1;rw[hl']at v2;obtain⟨v',U,hcv,_⟩:=h.ownAt hd;exact((v1 d hd).det hcv).trans ((v2 d hd).det hcv).symm
   ·cases hs
  ·cases hs
 ·cases hs
theorem zs4[Base]{P:Program}{g:G}{e e':Env}{a:Act}{w:World}(h:Sim g e a.tmps w){o:Oper}{t u:TypeId}{x y:Operand}{z:Nat}(hz:zOf P t=some z)(hzu:zOf P u=some z)
 (ho:o.op=.call {callee:=.builtin .append,args:=#[x,y],argTypes:=#[t,u]}) (hs:zla e x y=true) (he:zin P e o.dst t x z=some e'):Runs P g e a w o e':=by
 unfold zin at he;split at he
 ·rename_i z' xs e2 ht;split at he
  ·rename_i hc;simp only[Bool.and_eq_true,decide_eq_true_eq,Bool.not_eq_true',List.isEmpty_eq_false_iff]at hc;obtain⟨⟨rfl,hlen⟩,hne⟩:=hc;obtain⟨el,hu,hel⟩:=zeq hz;obtain⟨eu,hu2,_⟩:=zeq hzu;obtain⟨i,d,zv,hi,_,hzv,hsize,hpos,hby,hzs⟩:=zc9 hel;obtain⟨g2,Y,s1,s2,s3,s4,s5⟩:=zb3 h ht;subst hsize;obtain⟨v',w',hr,hh⟩:=zzp (ty:=o.type) (tm:=a.tmps) s1 s4 hu hu2 hi hzv hpos hby hzs (show OwnC w (.sl i.size xs) (a.eval x) (Y 0)from s2) ⟨s3.S 0,s3.box 0,s3.lt 0,s3.c 0⟩ (λx hx=>s5 0 x hx) hne hlen
   refine zda ?_ hh he;simp only[execOp,ho,resolve,invoke,builtin,Sem.run_bind,Sem.run_pure,Result.andThen_ok,List.map_toArray,List.map_cons,List.map_nil,<-zzq h hs,hr]
  ·cases he
 ·cases he
end Go.Qz
namespace Go.Qz
theorem zbz(s:ByteArray):∀x∈za2 s,x.cells=[x]:=by
 intro x hx;obtain⟨b,_,rfl⟩:=List.mem_map.1 hx;rfl
theorem zwh{P:Program}{t:TypeId}(h:zyt P t=true):P.underlying t=some .string:=by
 unfold zyt at h;split at h
 ·assumption
 ·cases h
theorem zlz{g:G}{e:Env}{w:World}{T:Blk}{U:Nat->Blk}(h:FreeB g e w T)(hU:∀m x,U m x->T x)(h1:∀m m' x,U m x->U m' x->m=m'):Free g e w U:=
 ⟨h1,λk s x hx=>h.S s x (hU k x hx),λk x b hx=>h.box x b (hU k x hx),λk x hx=>h.lt x (hU k x hx),λk x o v hx=>h.c x o v (hU k x hx)⟩
theorem zhe[Base]{P:Program}{g g1:G}{e e1 e':Env}{a:Act}{w:World}(h1:Sim g1 e1 a.tmps w)(hn1:Next g e w g1 e1 w){o:Oper}{t u:TypeId}{x y:Operand}{z:Nat}{ys:List D}{news:List Value}{U:Nat->Blk}(hz:zOf P t=some z)
 (ho:o.op=.call {callee:=.builtin .append,args:=#[x,y],argTypes:=#[t,u]})
 (happ:Apps P u (a.eval y) z ys.length news w) (hys:∀x∈ys,x.cells.length=z) (hnl:news.length=ys.length*z) (hon:∀u∈news,u.oneCell' =true) (hno:∀m d,(ys.flatMap D.cells)[m]? =some d->OwnC w d (news.getD m undef) (U m))
 (hfU:Free g1 e1 w U) (hU:∀k x,U k x->Mine g e x∨w.heap.size<=x) (he:zdu P e1 o.dst t x z ys=some e'):Runs P g e a w o e':=by
 unfold zdu at he;split at he
 ·rename_i z' xs e2 ht;split at he
  ·rename_i hc;simp only[Bool.and_eq_true,decide_eq_true_eq]at hc;obtain⟨rfl,hlen⟩:=hc;obtain⟨el,hu,hel⟩:=zeq hz;obtain⟨i,d,zv,hi,_,hzv,hsize,hpos,hby,hzs⟩:=zc9 hel;obtain⟨g2,Y,s1,s2,s3,s4,s5⟩:=zb3 h1 ht
   have hmine:∀k x,U k x-> ¬Mine g1 e1 x:=by
    intro k x hx hm;rcases hm with⟨s,hs⟩|⟨b,hb,hlt,e1⟩
    ·exact hfU.S k s x hx hs
    ·exact hfU.box k x b hx hb hlt e1
   obtain⟨v',w',hr,hh⟩:=zly (ty:=o.type) (tm:=a.tmps) s1 (hn1.trans s4) hu hi hzv hsize hpos hby hzs (show OwnC w (.sl z' xs) (a.eval x) (Y 0)from s2) ⟨s3.S 0,s3.box 0,s3.lt 0,s3.c 0⟩
    (λx hx=>by
     rcases s5 0 x hx with hm|hle
     ·exact hn1.mine x hm
     ·exact .inr hle)
    happ hys hnl hon hno (hfU.next s4) hU (λk x hx hY=>by
     rcases s5 0 x hY with hm|hle
     ·exact hmine k x hx hm
     ·have:=hfU.lt k x hx;omega) hlen
   refine zda ?_ hh he;simp only[execOp,ho,resolve,invoke,builtin,Sem.run_bind,Sem.run_pure,Result.andThen_ok,List.map_toArray,List.map_cons,List.map_nil,hr]
  ·cases he
 ·cases he
theorem z89{w:World}{el:TypeId}{b:ByteArray}{v:Value}{T:Blk}(h:OwnC w (.bs el b) v T):OwnC w (.sl 1 (za2 b)) v T:=by
 have hlen:(za2 b).length=b.size:=by unfold za2;rw[List.length_map,show b.data.toList.length=b.data.size from Array.length_toList];rfl
 cases h with
 |flat hf _=>simp[D.flat]at hf
 |bs h1 h2=>
  obtain⟨q1,hv|⟨g,cap,cur,rfl,_,hg,hnc,hcm,hcs,htake⟩⟩:=h1
  ·obtain⟨rfl,h0⟩:=hv;have:za2 b=[]:=List.eq_nil_of_length_eq_zero (by omega)
   rw[this];exact .nil
  ·have hcell:∀m d,((za2 b).flatMap D.cells)[m]? =some d->d.flat=true/\RO zzc d (cur.getD m undef):=by
    intro m d hm;rw[zcr (zbz b)]at hm;unfold za2 at hm;rw[List.getElem?_map]at hm
    cases hq:b.data.toList[m]? with
    |none=>rw[hq]at hm;cases hm
    |some x=>
     rw[hq]at hm;obtain rfl:=Option.some.inj hm;have hlt:=(List.getElem?_eq_some_iff.1 hq).1;have hlt2:m<b.size:=by rw[show b.data.toList.length=b.data.size from Array.length_toList]at hlt;exact hlt
     have:(cur.toList.take (b.size*1))[m]? =some (.int .u8 x.toNat):=by rw[htake,List.getElem?_map,hq];rfl
     rw[List.getElem?_take_of_lt (by omega)]at this
     have hget:cur.getD m undef=.int .u8 x.toNat:=by
      rw[Array.getD_eq_getD_getElem?,<-Array.getElem?_toList,this];rfl
     rw[hget];exact⟨rfl,.int _ _⟩
   rw[<-hlen];refine .row (λ_ _=>False) (.of hg) (by omega) (by omega) hcm Nat.one_pos (h2 g rfl) (λ_ _ h=>h.elim) (λ_ _ _ h=>h.elim) (λx hx=>by rw[zbz b x hx];rfl) (λm hm=>?_) (λm d hd=>.flat (hcell m d hd).1 (hcell m d hd).2)
   rw[<-zat (z:=1) (xs:=za2 b) (λx hx=>by rw[zbz b x hx];rfl)]at hm
   obtain⟨k1,k2⟩:=hcell m _ (List.getElem?_eq_getElem hm)
   have hmem:((za2 b).flatMap D.cells)[m]∈za2 b:=by
    have h0:=List.getElem_mem (l:=(za2 b).flatMap D.cells) hm;generalize ((za2 b).flatMap D.cells)[m]=y at h0;rwa [zcr (zbz b)]at h0
   refine k2.notAgg (λds e=>?_)
   rw[e]at hmem;unfold za2 at hmem;simp at hmem
theorem z9a{w:World}{el:TypeId}{s:ByteArray}{xs:List D}{v:Value}{T:Blk}(h:OwnC w (.sl 1 xs) v T)(ho:w.ownsRow 0 el 1 v s.size (s.data.toList.map λb=>.int .u8 b.toNat)):OwnC w (.bs el s) v T:=by
 refine .bs ho (λx hx=>?_)
 cases h with
 |flat hf _=>simp[D.flat]at hf
 |nil=>cases hx
 |row U h1 h2 h3 h4 h5 h6 h7 h8 h9 h10 h11=>cases hx;exact h6
theorem zwi{P:Program}{t el:TypeId}(h:zyo P t=some el):∃i,P.underlying t=some (.slice el)/\P.info? el=some i/\i.zero=some (.int .u8 0)/\i.size=1/\i.bytes=1:=by
 unfold zyo at h;split at h
 ·rename_i el' hu;split at h
  ·rename_i i hi;split at h
   ·rename_i hz;split at h
    ·rename_i hc;obtain rfl:=Option.some.inj h;simp only[Bool.and_eq_true,beq_iff_eq]at hc;exact⟨i,hu,hi,hz,hc.1,hc.2⟩
    ·cases h
   ·cases h
  ·cases h
 ·cases h
theorem zqm[Base]{P:Program}{g g1:G}{e e1 e':Env}{a:Act}{w:World}(h1:Sim g1 e1 a.tmps w)(hn1:Next g e w g1 e1 w){o:Oper}{t u:TypeId}{x y:Operand}{s:ByteArray}
 (ho:o.op=.call {callee:=.builtin .append,args:=#[x,y],argTypes:=#[t,u]})
 (hrun:∀(el:TypeId) (i:TypeInfo) (b:ByteArray),P.underlying t=some (.slice el)->P.info? el=some i->i.zero=some (.int .u8 0)->i.size=1->i.bytes=1->w.ownsRow 0 el 1 (a.eval x) b.size (b.data.toList.map λb=>.int .u8 b.toNat)->b.size+s.size<=140737488355328->
  ∃v2 w2,(Builtin.append_ #[t,u] o.type #[a.eval x,a.eval y]).run P w=.ok v2 w2/\w2.ownsRow 0 el 1 v2 (b.size+s.size) ((b.data.toList.map λb=>Value.int .u8 b.toNat)++(s.data.toList.map λb=>Value.int .u8 b.toNat)))
 (happ:Apps P u (a.eval y) 1 (za2 s).length (s.data.toList.map λb=>Value.int .u8 b.toNat) w) (he:zk9 P e1 o.dst t s (take P e1 t x)=some e'):Runs P g e a w o e':=by
 unfold zk9 at he;split at he
 ·rename_i el b e2 ht;split at he
  ·rename_i hc;simp only[Bool.and_eq_true,decide_eq_true_eq]at hc;obtain⟨hbt,hlen⟩:=hc;obtain⟨i,hut,hi,hzv,hsize,hby⟩:=zwi hbt;obtain⟨g2,Y,s1,s2,s3,s4,s5⟩:=zb3 h1 ht;have hown:OwnC w (.bs el b) (a.eval x) (Y 0):=s2;have hl:∀s:ByteArray,(za2 s).length=s.size:=λs=>by unfold za2;rw[List.length_map,show s.data.toList.length=s.data.size from Array.length_toList];rfl
   have hnews:(s.data.toList.map λb=>Value.int .u8 b.toNat).length=s.size:=by rw[List.length_map,show s.data.toList.length=s.data.size from Array.length_toList];rfl
   obtain⟨v',w',hr,hh⟩:=zly (ty:=o.type) (tm:=a.tmps) s1 (hn1.trans s4) hut hi hzv hsize Nat.one_pos (by omega) rfl (z89 hown) ⟨s3.S 0,s3.box 0,s3.lt 0,s3.c 0⟩
    (λx hx=>by
     rcases s5 0 x hx with hm|hle
     ·exact hn1.mine x hm
     ·exact .inr hle)
    happ (λx hx=>by rw[zbz s x hx];rfl) (by rw[hl,hnews,Nat.mul_one]) (λu hu' =>by obtain⟨m,hm,rfl⟩:=List.mem_map.1 hu';rfl)
    (U:=λ_ _=>False) (λm d hm=>by
     rw[zcr (zbz s)]at hm;unfold za2 at hm;rw[List.getElem?_map]at hm;rw[List.getD_eq_getElem?_getD,List.getElem?_map]
     cases hq:s.data.toList[m]? with
     |none=>rw[hq]at hm;cases hm
     |some c=>
      rw[hq]at hm;obtain rfl:=Option.some.inj hm
      exact .flat rfl (.int _ _)) (zaw _ _ _) (λ_ _ hx=>hx.elim) (λ_ _ hx=>hx.elim) (by rw[hl,hl];exact hlen)
   have hb:w.ownsRow 0 el 1 (a.eval x) b.size (b.data.toList.map λb=>.int .u8 b.toNat):=by
    cases hown with
    |flat hf _=>simp[D.flat]at hf
    |bs k1 _=>exact k1
   have hmx:b.size+s.size<=140737488355328:=by simp only[zaf]at hlen;omega
   obtain⟨v2,w2,hr2,hrow⟩:=hrun el i b hut hi hzv hsize hby hb hmx;rw[hr]at hr2;cases hr2
   have hcells:(b.data.toList.map λb=>Value.int .u8 b.toNat)++(s.data.toList.map λb=>Value.int .u8 b.toNat)=((b++s).data.toList.map λb=>Value.int .u8 b.toNat):=by
    rw[ByteArray.data_append,Array.toList_append,List.map_append]
   have hsz:b.size+s.size=(b++s).size:=by rw[ByteArray.size_append]
   rw[hcells,hsz]at hrow;refine zda (u:=v') (w':=w') ?_ ?_ he
   ·simp only[execOp,ho,resolve,invoke,builtin,Sem.run_bind,Sem.run_pure,Result.andThen_ok,List.map_toArray,List.map_cons,List.map_nil,hr]
   ·obtain⟨g',Y',k1,k2,k3,k4,k5⟩:=hh;exact⟨g',Y',k1,z9a k2 hrow,k3,k4,k5⟩
  ·cases he
 ·cases he
theorem zqn:∀{xs:List D} {bs:List UInt8},zpv xs=some bs->xs=bs.map λb=>D.int .u8 (b.toNat:Int)
 | [],bs,h=>by cases h;rfl
 |d::r,bs,h=>by
  cases d with
  |int k n=>
   cases k with
   |u8=>
    simp only[zpv]at h;split at h
    ·rename_i hn;split at h
     ·rename_i bs' hb;cases h;rw[zqn hb,List.map_cons];congr 2;simp only[Nat.toUInt8,UInt8.toNat_ofNat'];omega
     ·cases h
    ·cases h
   |_=>cases h
  |_=>cases h
theorem zqo[Base]{P:Program}{g:G}{e e':Env}{a:Act}{w:World}(h:Sim g e a.tmps w){o:Oper}{t u:TypeId}{x y:Operand}(ho:o.op=.call {callee:=.builtin .append,args:=#[x,y],argTypes:=#[t,u]}){z:Nat}(hz:zOf P t=some z){ys:List D}{uf:Nat->Value}{av:Option Addr}{cap:Nat}
 (hv:a.eval y=.slice av ys.length cap) (hcell:0<ys.length-> ∃b off,av=some ⟨b,off,none⟩/\ ∀m,m<ys.length*z->w.cell? ⟨b,off+m,none⟩=some (uf m)) (hro:∀m d,(ys.flatMap D.cells)[m]? =some d->RO (zbc w) d (uf m))
 (happ:Apps P u (a.eval y) z ys.length ((List.range (ys.length*z)).map uf) w) (he:zg3 P e o.dst t u ys (take P e t x)=some e'):Runs P g e a w o e':=by
 unfold zg3 at he;split at he
 ·rename_i b0 bs hbs;split at he
  ·rename_i hc;obtain⟨rfl,hz1⟩:=hc;rw[hz]at hz1;obtain rfl:=Option.some.inj hz1;have hys:=zqn hbs;obtain⟨s,hs⟩:∃s:List UInt8,s=b0::bs:=⟨_,rfl⟩;rw[<-hs]at hys he;have hlen:ys.length=s.length:=by rw[hys,List.length_map]
   have hpos:0<ys.length:=by rw[hlen,hs];simp
   have hone:∀x∈ys,x.cells=[x]:=λx hx=>by
    rw[hys]at hx;obtain⟨b,_,rfl⟩:=List.mem_map.1 hx;rfl
   have huf:∀m (hm:m<s.length),uf m=.int .u8 (s[m].toNat:Int):=λm hm=>by
    refine RO.int_inv (hro m (.int .u8 (s[m].toNat:Int)) ?_);rw[zcr hone,hys,List.getElem?_map,List.getElem?_eq_getElem hm];rfl
   have hnew:(List.range (ys.length*1)).map uf=s.map λb=>Value.int .u8 b.toNat:=by
    refine List.ext_getElem (by simp[hlen]) (λm h1 h2=>?_)
    rw[List.length_map]at h2;simp[huf m h2]
   obtain⟨bk,off,rfl,hcells⟩:=hcell hpos;rw[hnew]at happ;refine zqm (s:=⟨s.toArray⟩) h (Next.refl g e w) ho (λel i b hut hi hzv hsize hby hb hmx=>?_) ?_ he
   ·have hsz:(⟨s.toArray⟩:ByteArray).size=s.length:=by simp[ByteArray.size]
    rw[hsz]at hmx ⊢
    obtain⟨v2,w2,hr2,hrow,_,_⟩:=run_append_own (P:=P) w 0 t o.type el i (.int .u8 0) 1 1 hut hi hzv hsize hby rfl Nat.one_pos _ _ _ hb ⟨bk,off,none⟩ s.length cap (s.map λb=>Value.int .u8 b.toNat) (by simp) (λj u hj=>by
     rw[List.getElem?_map]at hj
     cases hq:s[j]? with
     |none=>rw[hq]at hj;cases hj
     |some c=>
      rw[hq]at hj;obtain rfl:=Option.some.inj hj;obtain⟨hjl,rfl⟩:=List.getElem?_eq_some_iff.1 hq;have:=hcells j (by omega)
      rw[huf j hjl]at this;rw[zcg]
      exact this) (λu hu=>by obtain⟨c,_,rfl⟩:=List.mem_map.1 hu;rfl) (by unfold maxLen;omega) (by omega) (Nat.zero_le _)
    exact⟨v2,w2,by rw[hv,hlen];exact hr2,hrow⟩
   ·have e1:(za2 ⟨s.toArray⟩).length=ys.length:=by unfold za2;simp[hlen]
    rw[e1];exact happ
  ·cases he
 ·cases he
theorem zqp[Base]{P:Program}{g:G}{e e':Env}{a:Act}{w:World}(h:Sim g e a.tmps w){o:Oper}{t u:TypeId}{x y:Operand}(ho:o.op=.call {callee:=.builtin .append,args:=#[x,y],argTypes:=#[t,u]})(he:zg4 P e o.dst t u x y=some e'):Runs P g e a w o e':=by
 unfold zg4 at he;split at he
 ·rename_i z hz;split at he
  ·rename_i z' ys hy;split at he
   ·rename_i hc;simp only[Bool.and_eq_true,decide_eq_true_eq]at hc;obtain⟨rfl,hzu⟩:=hc;obtain⟨el,hu,_⟩:=zeq hzu;split at he
    ·rename_i hf;obtain⟨av,cap,hv,_,hx⟩:=(h.rd hy).sl_inv
     obtain⟨uf,hcell,hz1,hone,hro⟩:∃uf:Nat->Value,(0<ys.length-> ∃b off,av=some ⟨b,off,none⟩/\ ∀m,m<ys.length*z' ->w.cell? ⟨b,off+m,none⟩=some (uf m))/\(∀x∈ys,x.cells.length=z')/\(∀m,m<ys.length*z' ->(uf m).oneCell' =true)/\ ∀m d,(ys.flatMap D.cells)[m]? =some d->RO (zbc w) d (uf m):=by
      by_cases hnil:ys=[]
      ·subst hnil;exact⟨λ_=>undef,λh=>absurd h (by simp),λx hx=>by simp at hx,λm hm=>by simp at hm,λm d hm=>by simp at hm⟩
      ·obtain⟨b,off,uf,e1,q1,q2,q3⟩:=hx hnil;exact⟨uf,λ_=>⟨b,off,e1,λm hm=>(q2 m hm).1⟩,q1,λm hm=>(q2 m hm).2,q3⟩
     have happ:=zhd (cap:=cap) hu hcell;rw[<-hv]at happ;split at he
     ·exact zqo h ho hz hv hcell hro happ he
     refine zhe (U:=λ_ _=>False) h (Next.refl g e w) hz ho happ hz1 (by simp) (λu hu' =>?_) (λm d hm=>?_) (zaw g e w) (λ_ _ hx=>hx.elim) he
     ·obtain⟨m,hm,rfl⟩:=List.mem_map.1 hu';exact hone m (List.mem_range.1 hm)
     ·have hlt:=(List.getElem?_eq_some_iff.1 hm).1;rw[zat hz1]at hlt;rw[zju hlt]
      have hfd:d.flat=true:=by
       obtain⟨x,hx,hd⟩:=List.mem_flatMap.1 (List.mem_of_getElem? hm);have hxf:=zgl hf hx
       cases x with
       |agg cs=>exact zgl (show flats cs=true by simpa only[D.flat]using hxf) hd
       |_=>
        simp only[D.cells,List.mem_singleton]at hd;rw[hd];exact hxf
      exact .flat hfd ((hro m d hm).flat hfd)
    ·split at he
     ·rename_i hsame;exact zs4 h hz hzu ho hsame he
     split at he
     ·rename_i z2 ys' e1 ht;split at he
      ·rename_i hz2;subst hz2;obtain⟨g1,Y,s1,s2,s3,s4,s5⟩:=zb3 h ht;have hown:OwnC w (.sl z2 ys') (a.eval y) (Y 0):=s2
       obtain⟨av,cap,uf,U,hv,hcell,hz1,hone,hU1,hU2,hro⟩:∃(av:Option Addr) (cap:Nat) (uf:Nat->Value) (U:Nat->Blk),a.eval y=.slice av ys'.length cap/\(0<ys'.length-> ∃b off,av=some ⟨b,off,none⟩/\ ∀m,m<ys'.length*z2->w.cell? ⟨b,off+m,none⟩=some (uf m))/\(∀x∈ys',x.cells.length=z2)/\(∀m,m<ys'.length*z2->(uf m).oneCell' =true)/\
        (∀m x,U m x->Y 0 x)/\(∀m m' x,U m x->U m' x->m=m')/\ ∀m d,(ys'.flatMap D.cells)[m]? =some d->OwnC w d (uf m) (U m):=by
        generalize a.eval y=yv at hown
        cases hown with
        |flat hf _=>simp[D.flat]at hf
        |nil=>exact⟨none,0,λ_=>undef,λ_ _=>False,rfl,λh=>absurd h (by simp),λx hx=>by simp at hx,λm hm=>by simp at hm,λ_ _ h=>h.elim,λ_ _ _ h=>h.elim,λm d hm=>by simp at hm⟩
        | @row _ _ b cap el' cur T Us p1 p2 p3 p4 p5 p6 p7 p8 p9 p10 p11=>
          refine⟨_,cap,λm=>cur.getD m undef,Us,rfl,λ_=>⟨b,0,rfl,λm hm=>?_⟩,p9,p10,λm x hx=>(p7 m x hx).1,p8,p11⟩
          have:m<cur.size:=by rw[p2];exact Nat.lt_of_lt_of_le hm (Nat.mul_le_mul_right _ p3)
          rw[Nat.zero_add];exact p1.cell this
       have happ:=zhd (cap:=cap) hu hcell;rw[<-hv]at happ;refine zhe (U:=U) s1 s4 hz ho happ hz1 (by simp) (λu hu' =>?_) (λm d hm=>?_) (zlz ⟨s3.S 0,s3.box 0,s3.lt 0,s3.c 0⟩ hU1 hU2) (λk x hx=>s5 0 x (hU1 k x hx)) he
       ·obtain⟨m,hm,rfl⟩:=List.mem_map.1 hu';exact hone m (List.mem_range.1 hm)
       ·have hlt:=(List.getElem?_eq_some_iff.1 hm).1;rw[zat hz1]at hlt;rw[zju hlt];exact hro m d hm
      ·cases he
     ·cases he
   ·cases he
  ·rename_i s hy;split at he
   ·rename_i hc;simp only[Bool.and_eq_true,decide_eq_true_eq]at hc;obtain⟨rfl,hsu⟩:=hc;have hu:=zwh hsu;have hv:=(h.rd hy).str_inv;have hlen:(za2 s).length=s.size:=by unfold za2;rw[List.length_map,show s.data.toList.length=s.data.size from Array.length_toList];rfl
    have happ:Apps P u (a.eval y) 1 (za2 s).length (s.data.toList.map λb=>Value.int .u8 b.toNat) w:=by
     rw[hv,hlen];refine⟨.inr hu,λw' =>rfl,λw' _=>?_⟩
     have hx:s.extract 0 s.size=s:=by simp
     simp only[Builtin.firstCells,hx];rw[Sem.run_pure];congr 1;apply Array.ext';simp
    unfold zku at he;split at he
    ·refine zqm h (Next.refl g e w) ho (λel i b hut hi hzv hsize hby hb hmx=>?_) happ he
     obtain⟨v2,w2,hr2,hrow,_,_⟩:=Lib.run_append_own_string (P:=P) w 0 t u o.type el i hut hu hi hzv hsize hby _ _ _ hb s (by unfold maxLen;omega) hmx (Nat.zero_le _)
     exact⟨v2,w2,by rw[hv];exact hr2,hrow⟩
    refine zhe (U:=λ_ _=>False) h (Next.refl g e w) hz ho happ (λx hx=>by rw[zbz s x hx];rfl) (by rw[hlen,List.length_map,show s.data.toList.length=s.data.size from Array.length_toList,Nat.mul_one];rfl) (λu hu' =>?_) (λm d hm=>?_) (zaw g e w) (λ_ _ hx=>hx.elim) he
    ·obtain⟨m,hm,rfl⟩:=List.mem_map.1 hu';rfl
    ·rw[zcr (zbz s)]at hm;unfold za2 at hm;rw[List.getElem?_map]at hm;rw[List.getD_eq_getElem?_getD,List.getElem?_map]
     cases hq:s.data.toList[m]? with
     |none=>rw[hq]at hm;cases hm
     |some b=>
      rw[hq]at hm;obtain rfl:=Option.some.inj hm;exact .flat rfl (.int _ _)
   ·cases he
  ·rename_i hy;split at he
   ·rename_i hzu;obtain⟨el,hu,_⟩:=zeq hzu;have hr:=h.rd hy
    obtain⟨p,cap,hv⟩:∃p cap,a.eval y=.slice (some p) 0 cap:=by
     generalize a.eval y=q at hr;cases hr;exact⟨_,_,rfl⟩
    have happ:=zhd (P:=P) (w:=w) (z:=z) (n:=0) (a:=some p) (cap:=cap) (uf:=λ_=>undef) hu (λh=>absurd h (by simp))
    rw[<-hv]at happ;refine zhe (ys:=[]) (U:=λ_ _=>False) h (Next.refl g e w) hz ho happ (λx hx=>by cases hx) (by simp) (λu hu' =>by simp at hu') (λm d hm=>by simp at hm) (zaw g e w) (λ_ _ hx=>hx.elim) he
   ·cases he
  ·cases he
 ·cases he
end Go.Qz
namespace Go.Qz
theorem znw:∀{as:List A} {ds:List D},zf5 as=some ds->ds.length=as.length/\ ∀(k:Nat) (d:D),ds[k]? =some d-> ∃a,as[k]? =some a/\a.inner=some d
 | [],ds,h=>by
   simp only[zf5,Option.some.injEq]at h;subst h;exact⟨rfl,λk d hd=>by simp at hd⟩
 |a::r,ds,h=>by
  simp only[zf5]at h;split at h
  ·rename_i d hd;split at h
   ·rename_i ds' hds;obtain rfl:=Option.some.inj h;obtain⟨h1,h2⟩:=znw hds;refine⟨by simp[h1],λk d' hk=>?_⟩
    cases k with
    |zero=>
     simp only[List.getElem?_cons_zero,Option.some.injEq]at hk;subst hk;exact⟨a,rfl,hd⟩
    |succ k=>
     obtain⟨a',h3,h4⟩:=h2 k d' (by simpa using hk)
     exact⟨a',by simpa using h3,h4⟩
   ·cases h
  ·cases h
theorem zs5{g:G}{e:Env}{tm:Array Value}{w:World}{a:A}{d:D}{v:Value}{Y:Blk}(hi:a.inner=some d)(hh:HoldA g e tm w Y a v):OwnC w d v Y:=by
 cases a with
 |own d' =>
  obtain rfl:=Option.some.inj hi;exact hh
 |ro d' =>
  simp only[A.inner]at hi;split at hi
  ·rename_i hfl;obtain rfl:=Option.some.inj hi;exact .flat hfl (RO.flat hh hfl)
  ·cases hi
 |fn f caps=>
  cases caps with
  |nil=>
   obtain rfl:=Option.some.inj hi;obtain⟨vs,rfl,hs,_⟩:=hh;exact .flat rfl (.clo hs (λm d hd=>by simp at hd))
  |cons _ _=>cases hi
 |_=>cases hi
theorem zwj{P:Program}{el:TypeId}{d:D}(h:z2q P el=some d):∃i v,P.info? el=some i/\i.zero=some v/\v.cells.size=d.cells.length/\ ∀m dm,d.cells[m]? =some dm->(v.cells.getD m undef).oneCell' =true/\ ∀w,OwnC w dm (v.cells.getD m undef) (λ_=>False):=by
 unfold z2q at h;split at h
 ·rename_i as has;obtain⟨i,v,h1,h2,h3,h4⟩:=zjs has;split at h
  ·rename_i ds hds;obtain⟨k1,k2⟩:=znw hds
   have key:∀m dm,ds[m]? =some dm->(v.cells.getD m undef).oneCell' =true/\ ∀w,OwnC w dm (v.cells.getD m undef) (λ_=>False):=by
    intro m dm hm;obtain⟨a,q1,q2⟩:=k2 m dm hm;obtain⟨q3,_,q4⟩:=h4 m a q1;exact⟨q3,λw=>zs5 q2 (q4 ⟨λ_ _=>none,λ_ _=>False,λ_=>0,λ_=>undef⟩ ⟨0,λ_=>.undef,λ_=>none⟩ #[] w (λ_=>False))⟩
   split at h
   ·obtain rfl:=Option.some.inj h;exact⟨i,v,h1,h2,by rw[h3,<-k1];rfl,key⟩
   ·split at h
    ·rename_i hna d';obtain rfl:=Option.some.inj h;have hd0:=key 0 d' rfl;have hc:d'.cells=[d']:=(hd0.2 default).oneCell hd0.1;refine⟨i,v,h1,h2,by rw[h3,<-k1,hc],?_⟩
     rw[hc];exact key
    ·cases h
  ·cases h
 ·cases h
theorem zhu{d:D}:∀{n m:Nat} {dm:D},((List.replicate n d).flatMap D.cells)[m]? =some dm->d.cells[m % d.cells.length]? =some dm
 |0,m,dm,h=>by simp at h
 |n+1,m,dm,h=>by
  rw[List.replicate_succ,List.flatMap_cons]at h;rcases Nat.lt_or_ge m d.cells.length with hlt|hge
  ·rw[List.getElem?_append_left hlt]at h;rw[Nat.mod_eq_of_lt hlt];exact h
  ·rw[List.getElem?_append_right hge]at h;have:=zhu h;rw[Nat.mod_eq_sub_mod hge];exact this
theorem zqq{zc:Array Value}{n m:Nat}(h:m<n)(hz:0<zc.size):(madeCells zc n).getD m undef=zc.getD (m % zc.size) undef:=by
 have hlt:m % zc.size<zc.size:=Nat.mod_lt _ hz;simp[madeCells,Array.getD_eq_getD_getElem?,h,hlt]
theorem zo3[Base]{P:Program}{io:FuncId->List Nat}{call:zai}{g:G}{e e':Env}{a:Act}{w:World}(h:Sim g e a.tmps w){o:Oper}{t:TypeId}{x y:Operand}(ho:o.op=.makeSlice t x y)(he:evOp P io call e o=some e'):Runs P g e a w o e':=by
 simp only[evOp,ho]at he;split at he
 ·rename_i el hu;split at he
  ·rename_i z d kl l kc cp hel hzd hx hy;split at he
   ·rename_i hc;simp only[Bool.and_eq_true,decide_eq_true_eq]at hc;obtain⟨⟨⟨h0,hlc⟩,hmax⟩,hdz⟩:=hc;obtain⟨i,dd,zv,hi,_,hzv,hsize,hpos,hby,hzs⟩:=zc9 hel;obtain⟨i',zv',hi',hzv',hl,hcell⟩:=zwj hzd;rw[hi]at hi';cases hi';rw[hzv]at hzv';cases hzv';have hA:(zaf:Int)=1099511627776:=by decide
    rw[hA]at hmax;have hcpn:(cp.toNat:Int)=cp:=Int.toNat_of_nonneg (by omega)
    have hbytes:(i.bytes:Int)*cp<=281474976710656:=by
     have h1:(i.bytes:Int)*cp<=128*1099511627776:=Int.mul_le_mul (by omega) hmax (by omega) (by omega)
     omega
    have hr:=run_make (P:=P) w t el i zv hu hi hzv kl kc l cp h0 hlc hbytes (by omega)
    have hex:(execOp a.eval o).run P w=.ok (.value (.slice (some ⟨w.heap.size,0,none⟩) l.toNat cp.toNat)) (w.alloc (.cells (madeCells zv.cells (cp.toNat*i.size)) el)):=by
     have e1:=(h.rd hx).int_inv;have e2:=(h.rd hy).int_inv;simp only[execOp,ho,e1,e2,Sem.run_bind,hr];rfl
    have hlen:(List.replicate l.toNat d).length=l.toNat:=List.length_replicate
    have hh:=zh9 (g:=g) (e:=e) (w:=w) (z:=z) (cap:=cp.toNat) (xs:=List.replicate l.toNat d) (cur:=madeCells zv.cells (cp.toNat*i.size)) (el:=el) (U:=λ_ _=>False) h (Next.refl g e w) (zaw g e w) (λ_ _ hx=>hx.elim)
     (by rw[hsize];simp[madeCells]) (by rw[hlen];omega) (by simp only[maxLen];omega) hpos
     (λx hx=>by rw[List.eq_of_mem_replicate hx];exact hdz)
     (λm hm=>by
      rw[hlen]at hm;have hmc:m<cp.toNat*i.size:=by rw[hsize];exact Nat.lt_of_lt_of_le hm (Nat.mul_le_mul_right _ (by omega))
      rw[zqq hmc (by omega)]
      have hlt:m % zv.cells.size<d.cells.length:=by rw[<-hl];exact Nat.mod_lt _ (by omega)
      exact(hcell _ _ (List.getElem?_eq_getElem hlt)).1)
     (λm dm hm=>by
      have hlt:=(List.getElem?_eq_some_iff.1 hm).1;rw[zat (z:=z) (λx hx=>by rw[List.eq_of_mem_replicate hx];exact hdz),hlen]at hlt
      have hmc:m<cp.toNat*i.size:=by rw[hsize];exact Nat.lt_of_lt_of_le hlt (Nat.mul_le_mul_right _ (by omega))
      rw[zqq hmc (by omega),hl]
      exact(hcell _ _ (zhu hm)).2 w)
    rw[hlen]at hh;exact zda hex hh he
   ·cases he
  ·cases he
 ·cases he
end Go.Qz
