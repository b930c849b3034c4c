import Derived.Test.YtddfkpkieamlpaaGreatDoorQh0
import Derived.Laws.BytesArg
namespace Go.Qz
theorem RepA.hold{g:G}{e:Env}{tm:Array Value}{w:World}{t k:Nat}{Y:Blk}{a:A}{v:Value}(hno:∀d,a≠.own d)(h:RepA g e tm w (.tmp t k) a v):HoldA g e tm w Y a v:=by
 cases a with
 |own d=>exact absurd rfl (hno d)
 |selfp=>obtain⟨b,o,e,_⟩:=h;cases e
 |bnil t=>obtain⟨_,b,o,e,_⟩:=h;cases e
 |dead=>trivial
 |ro d=>exact h
 |view l=>exact h
 |ptr b o=>exact h
 |eptr l z i o=>exact h
 |pview l i k=>exact h
 |rptr ds=>exact h
 |fn f caps=>exact h
 |undef=>exact h
theorem Sim.live[Base]{g:G}{e:Env}{tm:Array Value}{w:World}(_h:Sim g e tm w){s:Slot}{a:A}{v:Value}(hl:a.live e=true)(ha:RepA g e tm w s a v):∃blk off,v=.pointer (some ⟨blk,off,none⟩):=by
 cases a with
 |ptr b o=>
  simp only[A.live,Bool.and_eq_true,decide_eq_true_eq]at hl;exact⟨_,_,ha hl.2 hl.1⟩
 |eptr l z i o=>
  simp only[A.live]at hl;split at hl
  ·rename_i z' xs hx;simp only[Bool.and_eq_true,decide_eq_true_eq]at hl;obtain⟨rfl,hi⟩:=hl;obtain⟨b,n,cap,_,hv⟩:=ha xs hx hi;exact⟨_,_,hv⟩
  ·cases hl
 |rptr ds=>obtain⟨b,off,hv,_⟩:=ha;exact⟨_,_,hv⟩
 |_=>cases hl
theorem zqg{g:G}{e:Env}{tm:Array Value}{w:World}{s:Slot}{Y:Blk}{a a':A}{off blk o:Nat}(hm:a.move off=some a')(ha:RepA g e tm w s a (.pointer (some ⟨blk,o,none⟩))):HoldA g e tm w Y a' (.pointer (some ⟨blk,o+off,none⟩)):=by
 cases a with
 |ptr b o' =>
  simp only[A.move,Option.some.injEq]at hm;subst hm;intro hb hlt;have:=ha hb hlt;simp only[Value.pointer.injEq,Option.some.injEq,Addr.mk.injEq,and_true]at this;rw[this.1,this.2]
 |eptr l z i o' =>
  simp only[A.move,Option.some.injEq]at hm;subst hm;intro xs hx hi;obtain⟨b,n,cap,hc,hv⟩:=ha xs hx hi;simp only[Value.pointer.injEq,Option.some.injEq,Addr.mk.injEq,and_true]at hv;exact⟨b,n,cap,hc,by rw[hv.1,hv.2,Nat.add_assoc]⟩
 |rptr ds=>
  simp only[A.move,Option.some.injEq]at hm;subst hm;obtain⟨b,o',hv,hd⟩:=ha;simp only[Value.pointer.injEq,Option.some.injEq,Addr.mk.injEq,and_true]at hv;refine⟨b,o' +off,by rw[hv.1,hv.2],λm d hm=>?_⟩
  rw[List.getElem?_drop]at hm;obtain⟨u,h1,h2⟩:=hd _ _ hm;exact⟨u,by rw[show o' +off+m=o' +(off+m) by omega];exact h1,h2⟩
 |_=>cases hm
theorem zlu:∀{xs:List D} {bs:List UInt8},zj5 xs=some bs-> ∃ns:List Int,xs=ns.map (D.int .u8)/\bs=ns.map λn=>UInt8.ofNat n.toNat
 | [],bs,h=>by
   simp only[zj5,Option.some.injEq]at h;subst h;exact⟨[],rfl,rfl⟩
 |d::r,bs,h=>by
  unfold zj5 at h;split at h
  ·rename_i heq;cases heq
  ·rename_i n r' heq;cases heq;split at h
   ·rename_i bs' hb;obtain rfl:=Option.some.inj h;obtain⟨ns,h1,h2⟩:=zlu hb;exact⟨n::ns,by rw[h1];rfl,by rw[h2];rfl⟩
   ·cases h
  ·cases h
theorem zcr{xs:List D}(h:∀x∈xs,x.cells=[x]):xs.flatMap D.cells=xs:=by
 induction xs with
 |nil=>rfl
 |cons a r ih=>rw[List.flatMap_cons,h a List.mem_cons_self,ih (λx hx=>h x (List.mem_cons_of_mem _ hx))];rfl
theorem zwf{P:Program}{w:World}{s t:TypeId}{d r:D}{v:Value}(h:zut P s t d=some r)(hd:RO (zbc w) d v):(convert s t v).run P w=.ok (ofD r) w/\ ∀c,RO c r (ofD r):=by
 unfold zut at h;split at h
 ·rename_i h1 h2;obtain rfl:=hd.int_inv;obtain rfl:=Option.some.inj h;exact⟨by simp[convert,run_underlying h1,run_underlying h2,Conv.intToInt,ofD],λc=>by constructor⟩
 ·rename_i h1 h2;obtain rfl:=hd.str_inv;obtain rfl:=Option.some.inj h;exact⟨by simp[convert,run_underlying h1,run_underlying h2,ofD],λc=>by constructor⟩
 ·rename_i h1 h2;split at h
  ·rename_i h3;split at h
   ·rename_i bs hb;obtain rfl:=Option.some.inj h;obtain⟨a,cap,rfl,_,hx⟩:=hd.sl_inv;obtain⟨ns,rfl,rfl⟩:=zlu hb;refine⟨?_,λc=>.str _⟩
    cases ns with
    |nil=>
     cases a with
     |none=>rw[List.map_nil,List.length_nil,run_convert_bytes_nil w s _ h1 h3 0 cap t h2];rfl
     |some a=>
      simp[convert,run_underlying h1,run_underlying h2,run_underlying h3,Conv.bytesToString,loadCells,loadCellsFrom,ofD];rfl
    |cons n ns=>
     obtain⟨b,off,u,rfl,q1,q2,q3⟩:=hx (by simp)
     rw[zcr (λx hx=>by obtain⟨n,_,rfl⟩:=List.mem_map.1 hx;rfl)]at q3
     have:=run_convert_bytes_arg (P:=P) w s _ h1 h3 b off ((n::ns).map (D.int .u8)).length cap (n::ns) (by simp) (λi hi=>by
      have hi':i<(n::ns).length:=by simpa using hi
      have h4:=q2 i (by simpa using hi)
      have h5:=q3 i _ (by rw[List.getElem?_map,List.getElem?_eq_getElem hi'];rfl)
      have h6:=h5.int_inv;rw[h6]at h4;have h7:w.cell? ⟨b,off+i,none⟩=_:=h4.1;rw[h7]
      simp[List.getD_eq_getElem?_getD,List.getElem?_eq_getElem hi']) t h2
     rw[this];rfl
   ·cases h
  ·cases h
 ·cases h
end Go.Qz
namespace Go.Qz
theorem zi0{g:G}{e:Env}{tm:Array Value}{w:World}{c:Mem}{d:D}{u:Value}(hf:d.flat=true)(h:RO c d u):HoldV g e tm w (λ_ _=>False) (.one (.ro d)) u:=h.flatG hf
theorem zgo{P:Program}{s:TypeId}{f off ft:Nat}(h:fieldAt P s f=some (off,ft)):∃(fs:Array Field) (x:Field),P.underlying s=some (.struct fs)/\fs[f]? =some x/\x.offset=off/\x.type=ft:=by
 unfold fieldAt at h;split at h
 ·rename_i fs hfs;split at h
  ·rename_i x hx;simp only[Option.some.injEq,Prod.mk.injEq]at h;exact⟨fs,x,hfs,hx,h.1,h.2⟩
  ·cases h
 ·cases h
theorem zc9{P:Program}{e:TypeId}{z:Nat}(h:zij P e=some z):∃i d v,P.info? e=some i/\P.underlying e=some d/\i.zero=some v/\i.size=z/\0<z/\i.bytes<=128/\v.cells.size=z:=by
 unfold zij at h;split at h
 ·rename_i i hi;split at h
  ·rename_i d hd;split at h
   ·rename_i v hv;split at h
    ·rename_i hc;simp only[Bool.and_eq_true,decide_eq_true_eq]at hc;simp only[Option.some.injEq]at h;subst h;exact⟨i,d,v,hi,hd,hv,rfl,hc.1.1,hc.1.2,hc.2⟩
    ·cases h
   ·cases h
  ·cases h
 ·cases h
theorem zeq{P:Program}{t:TypeId}{z:Nat}(h:zOf P t=some z):∃e,P.underlying t=some (.slice e)/\zij P e=some z:=by
 unfold zOf at h;split at h
 ·rename_i e he;exact⟨e,he,h⟩
 ·cases h
theorem zlv{P:Program}{e:TypeId}{z:Nat}(h:zij P e=some z)(w:World):(sizeOf e).run P w=.ok z w:=by
 obtain⟨i,d,v,hi,_,_,hs,_⟩:=zc9 h;simp[sizeOf,typeInfo,hi,hs]
theorem zqh{P:Program}{t:TypeId}(hs:zbj P t=some 1)(ha:zbi P t=false)(cs:Array Value)(off:Nat)(v:Value)(h:cs[off]? =some v)(w:World):(part t cs off).run P w=.ok v w:=by
 simp[part,zjq hs,ha,h]
theorem getD_some{vs:Array Value}{k:Nat}(h:k<vs.size):vs[k]? =some (vs.getD k undef):=by
 simp[Array.getD_eq_getD_getElem?,h]
theorem zqi{P:Program}{w:World}{t e:TypeId}{a:Option Addr}{n c:Nat}(h:P.underlying t=some (.slice e)):(Op.equal t (.slice a n c) (.slice none 0 0)).run P w=.ok a.isNone w:=
 zd2 (λd=>by cases a<;>simp[Op.equalIn,run_underlying h])
theorem zzk{P:Program}{w:World}{a:Act}{t:TypeId}{op:BinOp}{x y:Operand}{d1 d:D}{u:Value}{c:Mem}(h:z2p P op t y d1=some d)(ha:RO c d1 u):
 (do eqGuard op t x y u (a.eval y);binOp op t u (a.eval y):Sem Value).run P w=.ok (ofD d) w/\ ∀c,RO c d (ofD d):=by
 unfold z2p at h;split at h
 ·rename_i hc;simp only[Bool.and_eq_true]at hc;obtain⟨hy,ht⟩:=hc
  obtain⟨e,he⟩:∃e,P.underlying t=some (.slice e):=by
   unfold isSl at ht;split at ht
   ·rename_i e he;exact⟨e,he⟩
   ·cases ht
  have hy':a.eval y=.slice none 0 0:=by
   unfold zyq at hy;split at hy
   ·rfl
   ·cases hy
  obtain⟨b,hb,n,q,p,hu,hp⟩:∃b,zv6 d1=some b/\ ∃n q p,u=.slice p n q/\p.isNone=b:=by
   cases hn:zv6 d1 with
   |none=>cases op<;>simp[hn]at h
   |some b=>
    refine⟨b,rfl,?_⟩;unfold zv6 at hn;split at hn
    ·cases ha;obtain rfl:=Option.some.inj hn;exact⟨_,_,_,rfl,rfl⟩
    ·cases ha;obtain rfl:=Option.some.inj hn;exact⟨_,_,_,rfl,rfl⟩
    ·cases ha;obtain rfl:=Option.some.inj hn;exact⟨_,_,_,rfl,rfl⟩
    ·cases hn
  subst hu hp;rw[hy'];rw[hb]at h
  cases op with
  |eql=>
   obtain rfl:=Option.some.inj h;exact⟨by simp[eqGuard,binOp,zqi he,ofD],λc=>.bool _⟩
  |neq=>
   obtain rfl:=Option.some.inj h;exact⟨by simp[eqGuard,binOp,zqi he,ofD],λc=>.bool _⟩
  |_=>cases h
 ·cases h
def zo2[Base](P:Program):Prop:=∀q,zys P q=true-> ∀(n x:Nat),sumTab[n]? =some x->Base.W0.cell? ⟨q,n,none⟩=some (.int .u32 x)
theorem z26[Base]{P:Program}(hT:zo2 P){g:G}{e:Env}{a:Act}{w:World}(h:Sim g e a.tmps w){o:Oper}{V:V}(hp:zbe P e o.type o.op=some V):
 ∃u,(execOp a.eval o).run P w=.ok (.value u) w/\HoldV g e a.tmps w (λ_ _=>False) V u:=by
 obtain⟨dst,op,type,pos,after,guard⟩:=o;dsimp only at hp;unfold execOp;dsimp only;unfold zbe at hp;split at hp
 ·-- binOp
  split at hp
  ·rename_i d1 h1;split at hp
   ·rename_i d hd;obtain rfl:=Option.some.inj hp;obtain⟨hr,hro⟩:=zzk (a:=a) (w:=w) hd (h.rd h1);exact⟨ofD d,by rw[Sem.run_bind,hr];rfl,hro _⟩
   split at hp
   ·rename_i d2 h2;split at hp
    ·rename_i d hd;obtain rfl:=Option.some.inj hp;obtain⟨hr,hro⟩:=zzj (w:=w) hd (h.rd h1) (h.rd h2);exact⟨ofD d,by rw[Sem.run_bind,hr];rfl,hro _⟩
    ·cases hp
   ·cases hp
  ·cases hp
 ·-- unOp
  split at hp
  ·rename_i d1 h1;split at hp
   ·rename_i d hd;obtain rfl:=Option.some.inj hp;obtain⟨hr,hro⟩:=z25 (P:=P) (w:=w) hd (h.rd h1);exact⟨ofD d,by rw[Sem.run_bind,hr];rfl,hro _⟩
   ·cases hp
  ·cases hp
 ·-- convert
  split at hp
  ·rename_i d1 h1;split at hp
   ·rename_i d hd;obtain rfl:=Option.some.inj hp;obtain⟨hr,hro⟩:=zwf (w:=w) hd (h.rd h1);exact⟨ofD d,by rw[Sem.run_bind,hr];rfl,hro _⟩
   ·cases hp
  ·cases hp
 ·-- pick
  rename_i c x y;split at hp
  ·rename_i t h1;have hc:=(h.rd h1).bool_inv;split at hp
   ·rename_i d hd;split at hp
    ·rename_i hf;obtain rfl:=Option.some.inj hp
     cases t with
     |true=>
      rw[if_pos rfl]at hd;exact⟨a.eval x,by simp[hc,asBool],zi0 hf (h.rd hd)⟩
     |false=>
      rw[if_neg (by simp)]at hd
      exact⟨a.eval y,by simp[hc,asBool],zi0 hf (h.rd hd)⟩
    ·cases hp
   ·cases hp
  ·cases hp
 ·-- nilCheck
  rename_i t;split at hp
  ·rename_i p hpt;split at hp
   ·rename_i hl;obtain rfl:=Option.some.inj hp;have ht:=h.tv t;rw[hpt]at ht;obtain⟨blk,off,hv⟩:=h.live hl ht;have hev:a.eval (.tmp t)=.pointer (some ⟨blk,off,none⟩):=hv;refine⟨.pointer (some ⟨blk,off,none⟩),by simp only[hev];rfl,?_⟩
    rw[<-hv];exact RepA.hold (λd e=>by rw[e]at hl;cases hl) ht
   ·cases hp
  ·cases hp
 ·-- fieldAddr
  rename_i s t f;split at hp
  ·rename_i off ft hft;split at hp
   ·rename_i n hn;split at hp
    ·rename_i p hpt;split at hp
     ·rename_i hl;split at hp
      ·rename_i p' hm;obtain rfl:=Option.some.inj hp;have ht:=h.tv t;rw[hpt]at ht;obtain⟨blk,o',hv⟩:=h.live hl ht;have hev:a.eval (.tmp t)=.pointer (some ⟨blk,o',none⟩):=hv;obtain⟨fs,x,q1,q2,rfl,rfl⟩:=zgo hft;refine⟨.pointer (some ⟨blk,o' +x.offset,none⟩),?_,?_⟩
       ·simp[hev,Instr.fieldAt,run_underlying q1,q2,Instr.sureAddr,fieldPlace,zeg hn,zcg]
       ·rw[hv]at ht;exact zqg hm ht
      ·cases hp
     ·cases hp
    ·cases hp
   ·cases hp
  ·cases hp
 ·-- indexAddr
  rename_i t x i;split at hp
  ·rename_i k n hi;have hiv:=(h.rd hi).int_inv;split at hp
   ·rename_i el hu;split at hp
    ·rename_i z hz;obtain⟨el',hu',hez⟩:=zeq hz;rw[hu]at hu';cases hu';have ht:=h.tv x;have hev:a.eval (.tmp x)=a.tmps.getD x undef:=rfl
     have hrun:∀blk off len cap,a.tmps.getD x undef=.slice (some ⟨blk,off,none⟩) len cap->0<=n->n<(len:Int)->(Instr.indexAt t (a.eval (.tmp x)) (a.eval i)).run P w=.ok (.pointer (some ⟨blk,off+n.toNat*z,none⟩)) w:=by
      intro blk off len cap hv h0 hlt;rw[hev,hv,hiv];simp[Instr.indexAt,asIntOf,run_underlying hu,h0,hlt,zlv hez,zcg]
     split at hp
     ·rename_i z' xs hx;rw[hx]at ht;split at hp
      ·rename_i hc;simp only[Bool.and_eq_true,decide_eq_true_eq]at hc;obtain⟨rfl,h0⟩:=hc;split at hp
       ·rename_i y hy;obtain rfl:=Option.some.inj hp;obtain⟨av,cap,hv,_,hx2⟩:=RO.sl_inv ht;have hlt:=(List.getElem?_eq_some_iff.1 hy).1;obtain⟨b,off,u,rfl,q1,q2,q3⟩:=hx2 (by intro e;subst e;simp at hy)
        refine⟨_,by rw[Sem.run_bind,hrun b off xs.length cap hv h0 (by omega)];rfl,b,off+n.toNat*z,rfl,λm d hm=>?_⟩
        have hcell:=zee q1 hy hm;have hlt2:=(List.getElem?_eq_some_iff.1 hcell).1;rw[zat q1]at hlt2;obtain⟨q4,q5⟩:=q2 _ hlt2;exact⟨u (n.toNat*z+m),by rw[Nat.add_assoc];exact q4,q5,q3 _ _ hcell⟩
       ·cases hp
      ·cases hp
     ·rename_i z' xs hx;rw[hx]at ht;split at hp
      ·rename_i hc;simp only[Bool.and_eq_true,decide_eq_true_eq]at hc;obtain⟨⟨rfl,h0⟩,hlt⟩:=hc;obtain rfl:=Option.some.inj hp;have hown:e.ownAt ⟨.tmp x,[]⟩=some (.sl z xs):=by simp[Env.ownAt,Env.root,hx,D.sub]
       have hin:n.toNat<xs.length:=by omega
       obtain⟨b,cap,hcv,_⟩:=h.elem hown (List.getElem?_eq_getElem hin)
       have hv:a.tmps.getD x undef=.slice (some ⟨b,0,none⟩) xs.length cap:=by
        obtain⟨W,hW,hp'⟩:=hcv;have e1:a.tmps.getD x undef=W:=hW;have e2:W=_:=hp';rw[e1,e2]
       refine⟨_,by rw[Sem.run_bind,hrun b 0 xs.length cap hv h0 hlt];rfl,λxs' hx' hi' =>?_⟩
       rw[hown]at hx';cases hx';exact⟨b,xs.length,cap,hcv,by rw[Nat.zero_add,Nat.add_zero]⟩
      ·cases hp
     ·rename_i l hx;rw[hx]at ht;split at hp
      ·rename_i z' xs hown;split at hp
       ·rename_i hc;simp only[Bool.and_eq_true,decide_eq_true_eq]at hc;obtain⟨⟨rfl,h0⟩,hlt⟩:=hc;obtain rfl:=Option.some.inj hp;have hin:n.toNat<xs.length:=by omega
        obtain⟨b,cap,hcv,_⟩:=h.elem hown (List.getElem?_eq_getElem hin);have hv:a.tmps.getD x undef=.slice (some ⟨b,0,none⟩) xs.length cap:=(ht _ hown).det hcv;refine⟨_,by rw[Sem.run_bind,hrun b 0 xs.length cap hv h0 hlt];rfl,λxs' hx' hi' =>?_⟩
        rw[hown]at hx';cases hx';exact⟨b,xs.length,cap,hcv,by rw[Nat.zero_add,Nat.add_zero]⟩
       ·cases hp
      ·cases hp
     ·cases hp
    ·cases hp
   ·rename_i m el hu;split at hp
    ·rename_i z hz;split at hp
     ·rename_i p hpt;split at hp
      ·rename_i hl;simp only[Bool.and_eq_true,decide_eq_true_eq]at hl;obtain⟨⟨hl,h0⟩,hlt⟩:=hl;split at hp
       ·rename_i p' hm;obtain rfl:=Option.some.inj hp;have ht:=h.tv x;rw[hpt]at ht;obtain⟨blk,o',hv⟩:=h.live hl ht;have hev:a.eval (.tmp x)=.pointer (some ⟨blk,o',none⟩):=hv;refine⟨.pointer (some ⟨blk,o' +n.toNat*(z+1),none⟩),?_,?_⟩
        ·simp[hev,hiv,Instr.indexAt,asIntOf,run_underlying hu,Instr.sureAddr,h0,hlt,zeg hz,zcg]
        ·rw[hv]at ht;exact zqg hm ht
       ·cases hp
      ·cases hp
     ·cases hp
    ·cases hp
   ·cases hp
  ·cases hp
 ·-- indexAddr of a table
  rename_i t q i;split at hp
  ·rename_i k n hi;have hiv:=(h.rd hi).int_inv;split at hp
   ·rename_i m el hu;split at hp
    ·rename_i hc;simp only[Bool.and_eq_true,decide_eq_true_eq]at hc;obtain⟨⟨⟨hq,hz⟩,h0⟩,hlt⟩:=hc;split at hp
     ·rename_i x hx;obtain rfl:=Option.some.inj hp;have hev:a.eval (.global q)=.pointer (some ⟨q,0,none⟩):=rfl;have hcell:g.c q n.toNat=some (.int .u32 x):=h.base _ _ _ (hT q hq _ _ hx);refine⟨.pointer (some ⟨q,0+n.toNat*1,none⟩),?_,q,0+n.toNat*1,rfl,λm' d hm=>?_⟩
      ·simp[hev,hiv,Instr.indexAt,asIntOf,run_underlying hu,Instr.sureAddr,h0,hlt,zeg hz,zcg]
      ·match m',hm with
       |0,hm=>
        obtain rfl:=Option.some.inj hm;exact⟨_,by rw[Nat.zero_add,Nat.mul_one,Nat.add_zero];exact hcell,rfl,.int _ _⟩
       |m' +1,hm=>simp at hm
     ·cases hp
    ·cases hp
   ·cases hp
  ·cases hp
 ·-- index
  rename_i t x i;split at hp
  ·rename_i k n hi;have hiv:=(h.rd hi).int_inv;split at hp
   ·rename_i s hs;have hsv:=(h.rd hs).str_inv;split at hp
    ·rename_i hu;split at hp
     ·rename_i h0;split at hp
      ·rename_i b hb;obtain rfl:=Option.some.inj hp;refine⟨.int .u8 b.toNat,?_,.int _ _⟩
       have hb':s[n.toNat]? =some b:=by
        have hlt:=(Array.getElem?_eq_some_iff.1 hb).1;have hb2:=(Array.getElem?_eq_some_iff.1 hb).2;have hlt':n.toNat<s.size:=hlt;rw[getElem?_pos s n.toNat hlt'];exact congrArg some hb2
       simp[hiv,hsv,Instr.index,asIntOf,run_underlying hu,h0,hb']
      ·cases hp
     ·cases hp
    ·cases hp
   ·rename_i ds hs;obtain⟨vs,hsv,hsz,_,hpt⟩:=(h.rd hs).agg_inv;split at hp
    ·rename_i m el hu;split at hp
     ·rename_i hc;simp only[Bool.and_eq_true,decide_eq_true_eq,Bool.not_eq_true']at hc;obtain⟨⟨⟨hz,hagg⟩,h0⟩,hlt⟩:=hc;split at hp
      ·rename_i d hd;split at hp
       ·rename_i hf;obtain rfl:=Option.some.inj hp;have hin:=(List.getElem?_eq_some_iff.1 hd).1;have hp1:=zqh hz hagg vs (n.toNat*1) (vs.getD n.toNat undef) (by rw[Nat.mul_one];exact getD_some (by omega)) w
        refine⟨vs.getD n.toNat undef,?_,zi0 hf (hpt _ _ hd)⟩;rw[Nat.mul_one]at hp1;simp[hiv,hsv,Instr.index,asIntOf,run_underlying hu,h0,hlt,zeg hz,hp1]
       ·cases hp
      ·cases hp
     ·cases hp
    ·cases hp
   ·cases hp
  ·cases hp
 ·-- field
  rename_i s x f;split at hp
  ·rename_i ds hs;obtain⟨vs,hsv,hsz,_,hpt⟩:=(h.rd hs).agg_inv;split at hp
   ·rename_i off ft hft;obtain⟨fs,fx,q1,q2,rfl,rfl⟩:=zgo hft;split at hp
    ·rename_i hc;simp only[Bool.and_eq_true,decide_eq_true_eq,Bool.not_eq_true']at hc;split at hp
     ·rename_i d hd;split at hp
      ·rename_i hf;obtain rfl:=Option.some.inj hp;have hin:=(List.getElem?_eq_some_iff.1 hd).1;have hp1:=zqh hc.1 hc.2 vs fx.offset (vs.getD fx.offset undef) (getD_some (by omega)) w
       exact⟨vs.getD fx.offset undef,by simp[hsv,Instr.field,run_underlying q1,q2,asAgg,hp1],zi0 hf (hpt _ _ hd)⟩
      ·cases hp
     ·cases hp
    ·cases hp
   ·cases hp
  ·cases hp
 ·-- load
  rename_i t x;split at hp
  ·rename_i p hpt;split at hp
   ·rename_i n hn;have ht:=h.tv x;rw[hpt]at ht;obtain⟨u,hr,hh⟩:=zu5 h hn ht hp;exact⟨u,by rw[Sem.run_bind];show Result.andThen ((Instr.loadAt t (a.tmps.getD x undef)).run P w) _=_;rw[hr];rfl,hh⟩
   ·cases hp
  ·cases hp
 ·-- makeInterface
  rename_i t x;split at hp
  ·cases hp
  ·rename_i ud hno hu;split at hp
   ·rename_i d hd;split at hp
    ·rename_i hf;obtain rfl:=Option.some.inj hp;refine⟨.iface t (a.eval x),?_,.iface ((h.rd hd).flatG hf)⟩;cases ud<;>first|(simp[Instr.makeInterface,run_underlying hu];done)|exact absurd rfl (hno _)
    ·cases hp
   ·cases hp
  ·cases hp
 ·-- builtins
  rename_i c;obtain⟨callee,args,argTypes⟩:=c;dsimp only at hp;split at hp
  ·rename_i x t hargs htys;have ea:args= #[x]:=by apply Array.ext';simpa using hargs
   have et:argTypes= #[t]:=by apply Array.ext';simpa using htys
   subst ea et;split at hp
   ·rename_i s hs;have hsv:=(h.rd hs).str_inv;split at hp
    ·rename_i hu;obtain rfl:=Option.some.inj hp;exact⟨.int .i64 s.size,by simp[resolve,invoke,builtin,Builtin.len_,hsv,run_underlying hu,goInt],.int _ _⟩
    ·cases hp
   ·rename_i z xs hs;obtain⟨av,cap,hsv,_,_⟩:=(h.rd hs).sl_inv;split at hp
    ·rename_i el hu;obtain rfl:=Option.some.inj hp;exact⟨.int .i64 xs.length,by simp[resolve,invoke,builtin,Builtin.len_,hsv,run_underlying hu,goInt],.int _ _⟩
    ·cases hp
   ·cases hp
  ·rename_i x y t u hargs htys;have ea:args= #[x,y]:=by apply Array.ext';simpa using hargs
   subst ea;split at hp
   ·rename_i k m k' n h1 h2;have hv1:=(h.rd h1).int_inv;have hv2:=(h.rd h2).int_inv;split at hp
    ·rename_i hk;subst hk;obtain rfl:=Option.some.inj hp;refine⟨_,?_,.int _ _⟩;simp only[resolve,invoke,builtin,Builtin.min_,hv1,hv2,List.map_toArray,List.map_cons,List.map_nil,List.foldlM,Builtin.min2,Sem.run_bind,Sem.run_pure,Result.andThen_ok];congr 3;split<;>split<;>first|rfl|omega
    ·cases hp
   ·cases hp
  ·rename_i x y t u hargs htys;have ea:args= #[x,y]:=by apply Array.ext';simpa using hargs
   subst ea;split at hp
   ·rename_i k m k' n h1 h2;have hv1:=(h.rd h1).int_inv;have hv2:=(h.rd h2).int_inv;split at hp
    ·rename_i hk;subst hk;obtain rfl:=Option.some.inj hp;refine⟨_,?_,.int _ _⟩;simp only[resolve,invoke,builtin,Builtin.max_,hv1,hv2,List.map_toArray,List.map_cons,List.map_nil,List.foldlM,Builtin.max2,Sem.run_bind,Sem.run_pure,Result.andThen_ok];congr 3;split<;>split<;>first|rfl|omega
    ·cases hp
   ·cases hp
  ·rename_i x y x3 x4 x5 t u t3 t4 t5 hargs htys;have ea:args= #[x,y,x3,x4,x5]:=by apply Array.ext';simpa using hargs
   subst ea;split at hp
   ·rename_i k m k2 n k3 c k4 d k5 f h1 h2 h3 h4 h5;have hv1:=(h.rd h1).int_inv;have hv2:=(h.rd h2).int_inv;have hv3:=(h.rd h3).int_inv;have hv4:=(h.rd h4).int_inv;have hv5:=(h.rd h5).int_inv;obtain rfl:=Option.some.inj hp;refine⟨_,?_,.int _ _⟩;have mx:∀a b:Int,(if b>a then b else a)=mxI a b:=λa b=>by unfold mxI;split<;>split<;>omega
    simp only[resolve,invoke,builtin,Builtin.max_,hv1,hv2,hv3,hv4,hv5,List.map_toArray,List.map_cons,List.map_nil,List.foldlM,Builtin.max2,Sem.run_bind,Sem.run_pure,Result.andThen_ok,mx]
   ·cases hp
  ·cases hp
 ·cases hp
end Go.Qz
namespace Go.Qz
def Runs[Base](P:Program)(g:G)(e:Env)(a:Act)(w:World)(o:Oper)(e':Env):Prop:=
 ∀(next:Act->World->Prop) (Q:Exit->Act->World->Prop),(∀a' w',Goes g e w e' a'.tmps w' ->a'.defers=a.defers->next a' w')->o.wp P a w next Q
def Stays[Base](P:Program)(g:G)(e:Env)(a:Act)(w:World)(o:Oper)(e':Env):Prop:=
 ∃(u:Value) (V:V) (e1:Env),(execOp a.eval o).run P w=.ok (.value u) w/\Holds g e a.tmps w V u e1 w/\zap e1 o.dst V=some e'
theorem zau[Base]{P:Program}{g:G}{e e1 e':Env}{a:Act}{w:World}{o:Oper}{V:V}{u:Value}(hr:(execOp a.eval o).run P w=.ok (.value u) w)(hh:Holds g e a.tmps w V u e1 w)(hp:zap e1 o.dst V=some e'):Stays P g e a w o e':=⟨u,V,e1,hr,hh,hp⟩
theorem zda[Base]{P:Program}{g:G}{e e1 e':Env}{a:Act}{w w':World}{o:Oper}{V:V}{u:Value}(hr:(execOp a.eval o).run P w=.ok (.value u) w')(hh:Holds g e a.tmps w V u e1 w')(hp:zap e1 o.dst V=some e'):Runs P g e a w o e':=by
 intro next Q h
 unfold Oper.wp;rw[hr,Oper.upon_value];have hg:=hh.put hp;exact h _ _ (by rw[zha];exact hg) (zd1 _ _ _)
theorem zqj[Base]{P:Program}{g:G}{e e':Env}{a:Act}{w w':World}{o:Oper}{u:Value}(hr:(execOp a.eval o).run P w=.ok (.value u) w'){d:Nat}(hd:o.dst=some d)(hg:Goes g e w e' (a.tmps.setIfInBounds d u) w'):Runs P g e a w o e':=by
 intro next Q h
 unfold Oper.wp;rw[hr,Oper.upon_value];refine h _ _ ?_ ?_
 ·rw[hd];exact hg
 ·rw[hd];rfl
theorem zqk[Base]{P:Program}{g:G}{e e':Env}{a:Act}{w w':World}{o:Oper}(hr:(execOp a.eval o).run P w=.ok .skip w')(hg:Goes g e w e' a.tmps w')(hd:o.dst=none):Runs P g e a w o e':=by
 intro next Q h
 unfold Oper.wp;rw[hr,Oper.upon_skip,hd];exact h _ _ hg rfl
theorem OwnC.notAgg{w:World}{d:D}{v:Value}{T:Blk}(h:OwnC w d v T)(hd:∀ds,d≠.agg ds):v.oneCell' =true:=by
 cases h with
 |flat _ h=>exact h.notAgg hd
 |hole h=>exact h
 |bs h1 _=>exact zh4 h1
 |agg _ _ _ _ _ _=>exact absurd rfl (hd _)
 |_=>rfl
theorem Stays.runs[Base]{P:Program}{g:G}{e e':Env}{a:Act}{w:World}{o:Oper}(h:Stays P g e a w o e'):Runs P g e a w o e':=by
 obtain⟨u,V,e1,hr,hh,hp⟩:=h;exact zda hr hh hp
theorem zjr{g:G}{e:Env}{tm:Array Value}{w:World}{Y:Nat->Blk}{V:V}{v:Value}{as:List A}(hc:V.cellsA=some as)(hh:HoldV g e tm w Y V v)(hf:Free g e w Y):
 ∃Y',v.cells.size=as.length/\(∀k,k<as.length->(v.cells.getD k undef).oneCell' =true)/\(∀k a,as[k]? =some a->HoldA g e tm w (Y' k) a (v.cells.getD k undef))/\Free g e w Y' /\ ∀k x,Y' k x-> ∃k',Y k' x:=by
 have one:∀a:A,V=.one a->as=[a]->v.oneCell' =true-> ∃Y',v.cells.size=as.length/\(∀k,k<as.length->(v.cells.getD k undef).oneCell' =true)/\(∀k a,as[k]? =some a->HoldA g e tm w (Y' k) a (v.cells.getD k undef))/\Free g e w Y' /\ ∀k x,Y' k x-> ∃k',Y k' x:=by
  rintro a rfl rfl hv;rw[zkc hv];refine⟨Y,rfl,λk hk=>?_,λk a' ha=>?_,hf,λk x hx=>⟨k,hx⟩⟩
  ·obtain rfl:k=0:=by simpa using hk
   exact hv
  ·cases k with
   |zero=>
    simp only[List.getElem?_cons_zero,Option.some.injEq]at ha;subst ha;exact hh
   |succ k=>simp at ha
 cases V with
 |tup as=>cases hc
 |agg as' =>
  obtain rfl:=Option.some.inj hc;obtain⟨vs,rfl,hs,hk⟩:=hh;exact⟨Y,hs,λk hk' =>(hk k _ (List.getElem?_eq_getElem hk')).1,λk a ha=>(hk k a ha).2,hf,λk x hx=>⟨k,hx⟩⟩
 |one a=>
  have other:(∀ds,a≠.ro (.agg ds))->(∀ds,a≠.own (.agg ds))->a.inCell=true->as=[a]-> ∃Y',v.cells.size=as.length/\(∀k,k<as.length->(v.cells.getD k undef).oneCell' =true)/\(∀k a,as[k]? =some a->HoldA g e tm w (Y' k) a (v.cells.getD k undef))/\Free g e w Y' /\ ∀k x,Y' k x-> ∃k',Y k' x:=by
   intro h1 h2 h3 h4;refine one a rfl h4 ?_
   cases a with
   |ro d=>exact RO.notAgg hh (λds e=>h1 ds (by rw[e]))
   |own d=>exact OwnC.notAgg hh (λds e=>h2 ds (by rw[e]))
   |fn f caps=>obtain⟨vs,rfl,_⟩:=hh;rfl
   |_=>cases h3
  unfold V.cellsA at hc;split at hc
  ·rename_i ds heq;cases heq;obtain rfl:=Option.some.inj hc;obtain⟨vs,rfl,h1,h2,h3⟩:=RO.agg_inv hh;refine⟨λ_ _=>False,by rw[List.length_map];exact h1,λk hk=>h2 k (by simpa using hk),λk a ha=>?_,zaw g e w,λ_ _ hx=>hx.elim⟩
   rw[List.getElem?_map]at ha
   cases hq:ds[k]? with
   |none=>rw[hq]at ha;cases ha
   |some d=>
    rw[hq]at ha;obtain rfl:=Option.some.inj ha;exact h3 k d hq
  ·rename_i ds heq;cases heq;obtain rfl:=Option.some.inj hc;have ho:OwnC w (.agg ds) v (Y 0):=hh;obtain⟨U,h1,h2,h3,h4,h5⟩:=ho.parts;refine⟨U,by simpa [D.cells]using h1,λk hk=>h4 k (by simpa [D.cells]using hk),λk a ha=>?_,⟨h3,λk s x hx=>hf.S 0 s x (h2 k x hx),λk x b hx=>hf.box 0 x b (h2 k x hx),λk x hx=>hf.lt 0 x (h2 k x hx),λk x o v hx=>hf.c 0 x o v (h2 k x hx)⟩,λk x hx=>⟨0,h2 k x hx⟩⟩
   rw[List.getElem?_map]at ha
   cases hq:ds[k]? with
   |none=>rw[hq]at ha;cases ha
   |some d=>
    rw[hq]at ha;have hd:=h5 k d hq;obtain rfl:=Option.some.inj ha;by_cases hfl:d.flat=true
    ·simp only[if_pos hfl];have:RO (zbc w) d _:=hd.toRO (λb o u _ hu=>hu)
     exact this.flatG hfl
    ·simp only[if_neg hfl];exact hd
  ·rename_i a' h1 h2 heq;cases heq;split at hc
   ·rename_i h3;obtain rfl:=Option.some.inj hc;exact other (λds e=>h1 ds (by rw[e])) (λds e=>h2 ds (by rw[e])) h3 rfl
   ·cases hc
  ·rename_i heq;cases heq
  ·cases hc
theorem Holds.after[Base]{g g1:G}{e e1 e2:Env}{tm:Array Value}{w w1 w2:World}{V:V}{v:Value}(hn:Next g e w g1 e1 w1)(h:Holds g1 e1 tm w1 V v e2 w2):Holds g e tm w V v e2 w2:=by
 obtain⟨g2,Y,h1,h2,h3,h4,h5⟩:=h
 exact⟨g2,Y,h1,h2,h3,hn.trans h4,λk x hx=>by
  rcases h5 k x hx with hm|hle
  ·exact hn.mine x hm
  ·exact .inr (Nat.le_trans hn.size hle)⟩
theorem z27[Base]{P:Program}{io:FuncId->List Nat}{call:zai}{g:G}{e e':Env}{a:Act}{w:World}(h:Sim g e a.tmps w){o:Oper}{x:Operand}(ho:o.op=.move x)(he:evOp P io call e o=some e'):Stays P g e a w o e':=by
 have hr:(execOp a.eval o).run P w=.ok (.value (a.eval x)) w:=by simp[execOp,ho]
 simp only[evOp,ho]at he;split at he
 ·rename_i t;split at he
  ·rename_i d hd;refine zau hr (Holds.plain h ?_) he;intro d' _;exact⟨a.tmps.getD t undef,rfl,rfl⟩
  ·rename_i p hno hp;have ht:=h.tv t;rw[hp]at ht;have hh:HoldV g e a.tmps w (λ_ _=>False) (.one p) (a.eval (.tmp t)):=RepA.hold (λd e=>hno d e) ht
   exact zau hr (Holds.plain h hh) he
  ·rename_i us hus;split at he
   ·rename_i hro;have ht:=h.tv t;rw[hus]at ht;obtain⟨vs,hv,hs,hk⟩:=ht
    have hh:HoldV g e a.tmps w (λ_ _=>False) (.tup us) (a.eval (.tmp t)):=⟨vs,hv,hs,λk p hp=>by
     have h1:=hk k p hp;have h2:=List.all_eq_true.1 hro p (List.mem_of_getElem? hp)
     cases p with
     |ro d=>exact h1
     |_=>cases h2⟩
    exact zau hr (Holds.plain h hh) he
   ·split at he
    ·rename_i V e1 ht;exact zau hr (zb3 h ht) he
    ·cases he
  ·split at he
   ·rename_i V e1 ht;exact zau hr (zb3 h ht) he
   ·cases he
 ·split at he
  ·rename_i V e1 ht;exact zau hr (zb3 h ht) he
  ·cases he
theorem zwg[Base]{P:Program}{io:FuncId->List Nat}{call:zai}{g:G}{e e':Env}{a:Act}{w:World}(h:Sim g e a.tmps w){o:Oper}{x:Operand}(ho:o.op=.assign x)(he:evOp P io call e o=some e'):Stays P g e a w o e':=by
 have hr:(execOp a.eval o).run P w=.ok (.value (a.eval x)) w:=by simp[execOp,ho]
 simp only[evOp,ho]at he;split at he
 ·rename_i V e1 ht;exact zau hr (zb3 h ht) he
 ·cases he
theorem Sim.untuple[Base]{g:G}{e:Env}{tm:Array Value}{w:World}(h:Sim g e tm w){t i:Nat}{as:List A}{a:A}(ht:e.get t=.tup as)(ha:as[i]? =some a):
 ∃vs:Array Value,tm.getD t undef=.tuple vs/\i<vs.size/\Holds g e tm w (.one a) (vs.getD i undef) (e.set0 t (.tup (as.set i .dead))) w:=by
 have htv:=h.tv t;rw[ht]at htv;obtain⟨vs,hv,hs,hk⟩:=htv;have hi:=(List.getElem?_eq_some_iff.1 ha).1;refine⟨vs,hv,by omega,?_⟩
 have hS:∀s x,(g.setSlot (.tmp t i) (λ_=>False)).S s x->s≠.tmp t i/\g.S s x:=by
  intro s x hx;by_cases e1:s=.tmp t i
  ·subst e1;rw[zal]at hx;exact hx.elim
  ·rw[zae g _ e1]at hx;exact⟨e1,hx⟩
 have hown:∀l d,(e.set0 t (.tup (as.set i .dead))).ownAt l=some d->e.ownAt l=some d:=by
  intro l d hl
  cases l with
  |mk root path=>
   cases root with
   |tmp t' =>
    by_cases e1:t' =t
    ·subst e1;simp[Env.ownAt,Env.root,Env.get,Env.set0]at hl
    ·simpa [Env.ownAt,Env.root,Env.get,Env.set0,e1]using hl
   |cell b o=>exact hl
 have hleft:Left g e (g.setSlot (.tmp t i) (λ_=>False)) (e.set0 t (.tup (as.set i .dead))):=⟨rfl,rfl,rfl,λs x hx=>(hS s x hx).2,rfl,λ_=>rfl⟩
 have K:=hleft.keeps (tm:=tm) (w:=w) hown
 have key:Sim (g.setSlot (.tmp t i) (λ_=>False)) (e.set0 t (.tup (as.set i .dead))) tm w:=by
  refine{
   size:=h.size
   tv:=λt' =>?_
   bx:=λb cs hcs=>(h.bx b cs hcs).keep K (λo x hx=>⟨by rw[zae g _ (by simp)];exact hx,rfl⟩) (λ_=>⟨rfl,rfl⟩) (λ_=>rfl)
   binj:=h.binj
   sdis:=λs s' x hx hx' =>h.sdis s s' x (hS s x hx).2 (hS s' x hx').2
   sbox:=λs b x hx=>h.sbox s b x (hS s x hx).2
   slt:=λs x hx=>h.slt s x (hS s x hx).2
   cmem:=h.cmem
   base:=h.base
   fix:=h.fix
   cdis:=λb o v hv=>⟨λs hx=>(h.cdis b o v hv).1 s (hS s b hx).2,(h.cdis b o v hv).2⟩}
  by_cases e1:t' =t
  ·subst e1;have eg:(e.set0 t' (.tup (as.set i .dead))).get t' =.tup (as.set i .dead):=by simp[Env.get,Env.set0]
   rw[eg];refine⟨vs,hv,by simpa using hs,λk a' hk' =>?_⟩
   by_cases e2:k=i
   ·subst e2;rw[List.getElem?_set_self hi]at hk';obtain rfl:=Option.some.inj hk';trivial
   ·rw[List.getElem?_set_ne (Ne.symm e2)]at hk';exact(hk k a' hk').keep K (by cases a' <;>simp[A.okRefs]) (λd _ x hx=>⟨by rw[zae g _ (by simpa using e2)];exact hx,rfl⟩) (λ_=>⟨rfl,λb o e=>by cases e⟩)
  ·have eg:(e.set0 t (.tup (as.set i .dead))).get t' =e.get t':=by simp[Env.get,Env.set0,e1]
   rw[eg];exact(h.tv t').keep K (λk x hx=>⟨by rw[zae g _ (by simp[e1])];exact hx,rfl⟩)
 have hf:FreeB (g.setSlot (.tmp t i) (λ_=>False)) (e.set0 t (.tup (as.set i .dead))) w (g.S (.tmp t i)):=
  ⟨λs x hx hs=>(hS s x hs).1 (h.sdis _ _ _ (hS s x hs).2 hx),λx b hx hb hlt=>h.sbox _ b x hx hb hlt,λx hx=>h.slt _ x hx,λx o v hx hv=>(h.cdis x o v hv).1 _ hx⟩
 refine⟨_,_,key,?_,hf.free,hleft.next w,λk x hx=>?_⟩
 ·have hka:=hk i a ha;show HoldA _ _ tm w (if 0=0 then g.S (.tmp t i)else _) a _
  rw[if_pos rfl]
  cases a with
  |own d=>exact hka
  |_=>
   refine HoldA.keep (Y:=λ_=>False) K (by simp[A.okRefs]) (λ_ hx=>hx.elim) (RepA.hold (λd e=>by cases e) hka)
 ·by_cases e1:k=0
  ·simp only[if_pos e1]at hx;exact .inl (.inl ⟨_,hx⟩)
  ·simp only[if_neg e1]at hx
theorem zs2[Base]{P:Program}{io:FuncId->List Nat}{call:zai}{g:G}{e e':Env}{a:Act}{w:World}(h:Sim g e a.tmps w){o:Oper}{x:Operand}{i:Nat}(ho:o.op=.extract x i)(he:evOp P io call e o=some e'):Stays P g e a w o e':=by
 simp only[evOp,ho]at he
 cases x with
 |tmp t=>
  dsimp only at he;split at he
  ·rename_i as ht;split at he
   ·rename_i p hp;split at he
    ·rename_i hro;have htv:=h.tv t;rw[ht]at htv;obtain⟨vs,hv,hs,hk⟩:=htv;have h1:=hk i p hp;have hev:a.eval (.tmp t)=.tuple vs:=hv;have hi:i<vs.size:=by rw[hs];exact(List.getElem?_eq_some_iff.1 hp).1
     have hr:(execOp a.eval o).run P w=.ok (.value (vs.getD i undef)) w:=by
      simp only[execOp,ho,hev,Instr.extract,getD_some hi];rfl
     have hh:HoldV g e a.tmps w (λ_ _=>False) (.one p) (vs.getD i undef):=by
      cases p with
      |ro d=>exact h1
      |_=>cases hro
     exact zau hr (Holds.plain h hh) he
    split at he
    ·rename_i d hd;split at he
     ·cases he
     ·obtain⟨vs,hv,hi,hh⟩:=h.untuple ht hp;have hev:a.eval (.tmp t)=.tuple vs:=hv
      have hr:(execOp a.eval o).run P w=.ok (.value (vs.getD i undef)) w:=by
       simp only[execOp,ho,hev,Instr.extract,getD_some hi];rfl
      rw[<-hd]at he;exact zau hr hh he
    ·cases he
   ·cases he
  ·cases he
 |_=>simp[zbe]at he
end Go.Qz
namespace Go.Qz
theorem zht:∀{vs:List Value} {zs:List Nat} {as:List A},ze3 vs zs=some as->as.length=vs.length/\ ∀k a,as[k]? =some a->(vs.getD k undef).oneCell' =true/\a.portable=true/\ ∀(g:G) (e:Env) (tm:Array Value) (w:World) (Y:Blk),HoldA g e tm w Y a (vs.getD k undef)
 | [],zs,as,h=>by
   simp only[ze3,Option.some.injEq]at h;subst h;exact⟨rfl,λk a ha=>by simp at ha⟩
 |v::vs,zs,as,h=>by
  simp only[ze3]at h;split at h
  ·rename_i a ha;split at h
   ·rename_i as' has;obtain rfl:=Option.some.inj h;obtain⟨h1,h2⟩:=zht has;refine⟨by simp[h1],λk a' hk=>?_⟩
    cases k with
    |zero=>
     simp only[List.getElem?_cons_zero,Option.some.injEq]at hk;subst hk;rw[List.getD_cons_zero];unfold zuu at ha;split at ha
     ·obtain rfl:=Option.some.inj ha;exact⟨rfl,rfl,λg e tm w Y=>.nil⟩
     ·split at ha
      ·rename_i d hd;obtain rfl:=Option.some.inj ha;refine⟨?_,rfl,λg e tm w Y=>zhr hd g.c⟩
       unfold zc5 at hd;split at hd<;>first|rfl|cases hd
      ·cases ha
    |succ k=>
     rw[List.getD_cons_succ];exact h2 k a' (by simpa using hk)
   ·cases h
  ·cases h
theorem zjs{P:Program}{t:TypeId}{as:List A}(h:zhm P t=some as):∃i v,P.info? t=some i/\i.zero=some v/\v.cells.size=as.length/\ ∀k a,as[k]? =some a->(v.cells.getD k undef).oneCell' =true/\a.portable=true/\ ∀(g:G) (e:Env) (tm:Array Value) (w:World) (Y:Blk),HoldA g e tm w Y a (v.cells.getD k undef):=by
 unfold zhm at h;split at h
 ·rename_i i hi;split at h
  ·rename_i v hv;obtain⟨h1,h2⟩:=zht h;refine⟨i,v,hi,hv,by rw[h1,Array.length_toList],λk a ha=>?_⟩
   have:=h2 k a ha;have e1:v.cells.toList.getD k undef=v.cells.getD k undef:=by simp[List.getD_eq_getElem?_getD,Array.getD_eq_getD_getElem?]
   rw[e1]at this;exact this
  ·cases h
 ·cases h
theorem zzl{a:A}(h:a.isNilp=true):a=.ro .nilp:=by
 unfold A.isNilp at h;split at h
 ·rfl
 ·cases h
theorem zql{r:List A}(h:zuw r=true):r=[.own (.sl 1 [])]:=by
 unfold zuw at h;split at h
 ·rename_i z;have:z=1:=by simpa using h
  rw[this]
 ·cases h
theorem zi1(t:TypeId)(u:Option TypeId)(cs:List A):(zux t u cs).length=cs.length:=by
 cases cs with
 |nil=>rfl
 |cons a r=>
  show (if a.isNilp then A.bnil t::zne u r else a::r).length=_
  split
  ·unfold zne;split
   ·split
    ·rename_i h;rw[zql h];rfl
    ·rfl
   ·rfl
  ·rfl
theorem znv{t:TypeId}{u:Option TypeId}{cs:List A}{k:Nat}{a:A}(h:(zux t u cs)[k]? =some a):cs[k]? =some a∨(a=.bnil t/\cs[k]? =some (.ro .nilp))∨(∃el,a=.own (.bs el .empty)/\cs[k]? =some (.own (.sl 1 []))):=by
 cases cs with
 |nil=>exact .inl h
 |cons a0 r=>
  change (if a0.isNilp then A.bnil t::zne u r else a0::r)[k]? =some a at h
  split at h
  ·rename_i hn
   cases k with
   |zero=>
    simp only[List.getElem?_cons_zero,Option.some.injEq]at h ⊢;exact .inr (.inl ⟨h.symm,zzl hn⟩)
   |succ k=>
    simp only[List.getElem?_cons_succ]at h ⊢;unfold zne at h;split at h
    ·split at h
     ·rename_i el hb;rw[zql hb]
      cases k with
      |zero=>
       simp only[List.getElem?_cons_zero,Option.some.injEq]at h;exact .inr (.inr ⟨_,h.symm,rfl⟩)
      |succ k=>simp at h
     ·exact .inl h
    ·exact .inl h
  ·exact .inl h
theorem zzm[Base]{P:Program}{io:FuncId->List Nat}{call:zai}{g:G}{e e':Env}{a:Act}{w:World}(h:Sim g e a.tmps w){o:Oper}{t:TypeId}(ho:o.op=.alloc t)(he:evOp P io call e o=some e'):Runs P g e a w o e':=by
 simp only[evOp,ho]at he;split at he
 ·rename_i d hd;split at he
  ·rename_i cs hcs;split at he
   ·rename_i hc;simp only[Bool.and_eq_true,decide_eq_true_eq]at hc;obtain⟨i,v,hi,hz,hl,hk⟩:=zjs hcs
    have hr:(execOp a.eval o).run P w=.ok (.value (.pointer (some ⟨w.heap.size,0,none⟩))) (w.alloc (.cells v.cells t)):=by
     simp[execOp,ho,Instr.alloc,zeroValue,typeInfo,hi,hz,newVar,newRow,World.alloc_eq]
    refine zqj hr hd (zjp (Y:=λ_ _=>False) h (Next.refl g e w) hc.1 (by rw[zi1];exact hl) (λa ha=>?_) (λk hk' =>?_) (λk a ha=>?_) (zaw g e w) (λ_ _ hx=>hx.elim) he)
    ·obtain⟨k,hk'⟩:=List.mem_iff_getElem?.1 ha;rcases znv hk' with hk' |⟨rfl,_⟩|⟨el,rfl,_⟩
     ·exact(hk k a hk').2.1
     ·rfl
     ·rfl
    ·rw[zi1]at hk';exact(hk k _ (List.getElem?_eq_getElem hk')).1
    ·rcases znv ha with ha|⟨rfl,hq⟩|⟨el,rfl,hq⟩
     ·exact .inl ((hk k _ ha).2.2 _ _ _ _ _)
     ·have:=(hk k _ hq).2.2 g e #[] w (λ_=>False)
      generalize v.cells.getD k undef=u at this ⊢;have hr:RO g.c .nilp u:=this;cases hr;exact .inr ⟨rfl,rfl⟩
     ·have:=(hk k _ hq).2.2 g e #[] w (λ_=>False)
      generalize v.cells.getD k undef=u at this ⊢;have hr:OwnC w (.sl 1 []) u (λ_=>False):=this
      refine .inl ?_;generalize hxs:([]:List D)=xs at hr
      cases hr with
      |flat hf _=>simp[D.flat]at hf
      |nil=>exact .bs ⟨rfl,.inl ⟨rfl,rfl⟩⟩ (λx hx=>by cases hx)
      |row _ _ _ _ _ _ hT _ _ _ _ _=>exact hT.elim
   ·cases he
  ·cases he
 ·cases he
theorem zeh{α:Type}{p:α->Bool}{l:List α}(h:l.all p=true):∀a∈l,p a=true:=λa ha=>List.all_eq_true.1 h a ha
theorem z5m[Base]{P:Program}{io:FuncId->List Nat}{call:zai}{g:G}{e e':Env}{a:Act}{w:World}(h:Sim g e a.tmps w){o:Oper}{t:TypeId}{x:Operand}(ho:o.op=.box t x)(he:evOp P io call e o=some e'):Runs P g e a w o e':=by
 simp only[evOp,ho]at he;split at he
 ·rename_i d hd;split at he
  ·rename_i V e1 ht;split at he
   ·rename_i cs hcs;split at he
    ·rename_i hc;simp only[Bool.and_eq_true,decide_eq_true_eq]at hc;obtain⟨g1,Y,h1,h2,h3,h4,h5⟩:=zb3 h ht;obtain⟨Y',k1,k2,k3,k4,k5⟩:=zjr hcs h2 h3
     have hr:(execOp a.eval o).run P w=.ok (.value (.pointer (some ⟨w.heap.size,0,none⟩))) (w.alloc (.cells (a.eval x).cells t)):=by
      simp[execOp,ho,Instr.box,newVar,newRow,World.alloc_eq]
     exact zqj hr hd (zjp h1 h4 hc.1.2 k1 (zeh hc.2) k2 (λk a ha=>.inl (k3 k a ha)) k4 (λk x hx=>by obtain⟨k',hk'⟩:=k5 k x hx;exact h5 k' x hk') he)
    ·cases he
   ·cases he
  ·cases he
 ·cases he
theorem zjt{g:G}{e:Env}{tm:Array Value}{w:World}{Y:Nat->Blk}{V:V}{v:Value}{d:D}(hi:V.inner=some d)(hh:HoldV g e tm w Y V v)(hf:Free g e w Y):OwnC w d v (λx=> ∃k,Y k x):=by
 have one:∀{a:A} {d:D} {v:Value} {Y:Blk},a.inner=some d->HoldA g e tm w Y a v->OwnC w d v Y:=by
  intro a d v Y hi hh
  cases a with
  |own d' =>
   obtain rfl:=Option.some.inj hi;exact hh
  |ro d' =>
   simp only[A.inner]at hi;split at hi
   ·rename_i hfl;obtain rfl:=Option.some.inj hi;exact .flat hfl (RO.flat hh hfl)
   ·cases hi
  |fn f caps=>
   cases caps with
   |nil=>
    obtain rfl:=Option.some.inj hi;obtain⟨vs,rfl,hs,_⟩:=hh;exact .flat rfl (.clo hs (λm d hd=>by simp at hd))
   |cons _ _=>cases hi
  |_=>cases hi
 cases V with
 |one a=>exact(one hi hh).mono (λx hx=>⟨0,hx⟩)
 |tup as=>cases hi
 |agg as=>
  obtain⟨vs,rfl,hs,hk⟩:=hh;simp only[V.inner]at hi;split at hi
  ·rename_i ds hds;obtain rfl:=Option.some.inj hi
   have key:∀{as:List A} {ds:List D},zf5 as=some ds->ds.length=as.length/\ ∀(k:Nat) (d:D),ds[k]? =some d-> ∃a,as[k]? =some a/\a.inner=some d:=by
    intro as
    induction as with
    |nil=>
     intro ds h;simp only[zf5,Option.some.injEq]at h;subst h;exact⟨rfl,λk d hd=>by simp at hd⟩
    |cons a r ih=>
     intro ds h;simp only[zf5]at h;split at h
     ·rename_i d hd;split at h
      ·rename_i ds' hds;obtain rfl:=Option.some.inj h;obtain⟨h1,h2⟩:=ih hds;refine⟨by simp[h1],λk d' hk=>?_⟩
       cases k with
       |zero=>
        simp only[List.getElem?_cons_zero,Option.some.injEq]at hk;subst hk;exact⟨a,rfl,hd⟩
       |succ k=>
        obtain⟨a',h3,h4⟩:=h2 k d' (by simpa using hk)
        exact⟨a',by simpa using h3,h4⟩
      ·cases h
     ·cases h
   obtain⟨hl,hg⟩:=key hds;refine .agg Y (by omega) (λm x hx=>⟨m,hx⟩) hf.one (λm hm=>(hk m _ (List.getElem?_eq_getElem (by omega))).1) (λm d hm=>?_)
   obtain⟨a,h1,h2⟩:=hg m d hm;exact one h2 (hk m a h1).2
  ·cases hi
theorem zlw{P:Program}{t:TypeId}{n blk off:Nat}{v:Value}{w:World}{cur:Array Value}{e:TypeId}(hs:zbj P t=some n)(hv:v.cells.size=n)(hb:RowAt w blk cur e)(hl:off+n<=cur.size)(h1:∀k,k<n->(v.cells.getD k undef).oneCell' =true):
 (Instr.storeAt t (.pointer (some ⟨blk,off,none⟩)) v).run P w=.ok () (zdv w blk off v.cells.toList):=by
 have:=zlr (P:=P) (off:=off) (i:=0) (us:=v.cells.toList) hb (by rw[Array.length_toList];omega) (λu hu=>by
  obtain⟨k,hk⟩:=List.mem_iff_getElem?.1 hu;have hlt:=(List.getElem?_eq_some_iff.1 hk).1;rw[Array.length_toList]at hlt;have:=h1 k (by omega)
  rw[Array.getElem?_toList]at hk;rw[Array.getD_eq_getD_getElem?,hk]at this
  exact this)
 simp only[Nat.add_zero]at this;simp[Instr.storeAt,Instr.sureAddr,storeVar,zeg hs,hv,this]
theorem zfu{vs:Array Value}{k:Nat}{u:Value}(h:vs.toList[k]? =some u):vs.getD k undef=u:=by
 rw[Array.getElem?_toList]at h;rw[Array.getD_eq_getD_getElem?,h];rfl
theorem Sim.elemBlk[Base]{g:G}{e:Env}{tm:Array Value}{w:World}(h:Sim g e tm w){l:Loc}{z:Nat}{xs:List D}(hl:e.ownAt l=some (.sl z xs)){i:Nat}{x:D}(hx:xs[i]? =some x){b n cap:Nat}(hcv:ConcV g tm w l (.slice (some ⟨b,0,none⟩) n cap)):
 ∃cur el,RowAt w b cur el/\i*z+x.cells.length<=cur.size:=by
 obtain⟨v,U,hcv',ho,_,_⟩:=h.ownAt hl
 cases ho with
 |flat hf _=>simp[D.flat]at hf
 |nil=>simp at hx
 | @row z xs b' cap' el cur T Us h1 h2 h3 h4 h5 h6 h7 h8 h9 h10 h11=>
   have:=hcv.det hcv';simp only[Value.slice.injEq,Option.some.injEq,Addr.mk.injEq,and_true]at this;obtain⟨rfl,_,_⟩:=this;refine⟨cur,el,h1,?_⟩;have hi:=(List.getElem?_eq_some_iff.1 hx).1;rw[h9 x (List.mem_of_getElem? hx),h2];have:(i+1)*z<=cap' *z:=Nat.mul_le_mul_right _ (by omega)
   rw[Nat.add_mul]at this;omega
theorem zzn[Base]{P:Program}{io:FuncId->List Nat}{call:zai}{g:G}{e e':Env}{a:Act}{w:World}(h:Sim g e a.tmps w){o:Oper}{t:TypeId}{x y:Operand}(ho:o.op=.store t x y)(he:evOp P io call e o=some e'):Runs P g e a w o e':=by
 simp only[evOp,ho]at he
 cases x with
 |tmp tx=>
  dsimp only at he;split at he
  ·rename_i hd;have hd':o.dst=none:=by simpa using hd
   split at he
   ·rename_i n V e1 hn ht;split at he
    ·rename_i p hp;obtain⟨g1,Y,h1,h2,h3,h4,h5⟩:=zb3 h ht;have hpt:=h1.tv tx;rw[hp]at hpt
     have hex:∀w',(Instr.storeAt t (a.eval (.tmp tx)) (a.eval y)).run P w=.ok () w' ->(execOp a.eval o).run P w=.ok .skip w':=by
      intro w' hw';simp[execOp,ho,hw']
     cases p with
     |ptr b off=>
      simp only[zk3]at he;split at he
      ·rename_i hlt;split at he
       ·rename_i cs hcs;split at he
        ·rename_i as has;split at he
         ·rename_i hc;simp only[Bool.and_eq_true,decide_eq_true_eq]at hc;obtain⟨⟨hc1,hc2⟩,hc3⟩:=hc;obtain rfl:=Option.some.inj he;obtain⟨Y',k1,k2,k3,k4,k5⟩:=zjr has h2 h3;have hbs1:(e1.box b).isSome=true:=by rw[hcs];rfl
          have hv:a.eval (.tmp tx)=.pointer (some ⟨g1.β b,off,none⟩):=hpt hbs1 hlt;have hbx:=h1.bx b cs hcs;unfold RepBox at hbx;rw[if_neg (by omega)]at hbx
          obtain⟨arr,el,q1,q2,q3⟩:=hbx;have hrun:=zlw (P:=P) (off:=off) hn (by rw[k1];exact hc1) (.of q1) (by omega) (λk hk=>k2 k (by omega))
          have hgo:=zwe (cs:=cs) (as:=as) (o:=off) h1 h4 hcs hlt (by omega) (us:=(a.eval y).cells.toList) (by rw[Array.length_toList];exact k1) (zeh hc3)
           (λu hu=>by
            obtain⟨k,hk⟩:=List.mem_iff_getElem?.1 hu;have hlt:=(List.getElem?_eq_some_iff.1 hk).1;rw[Array.length_toList]at hlt;have:=k2 k (by omega)
            rwa [zfu hk]at this)
           (λk a' u ha hu=>by have:=k3 k a' ha;rwa [zfu hu]at this) k4 (λk x hx=>by obtain⟨k',hk'⟩:=k5 k x hx;exact h5 k' x hk')
          exact zqk (hex _ (by rw[hv];exact hrun)) hgo hd'
         ·cases he
        ·cases he
       ·cases he
      ·cases he
     |eptr l z i off=>
      simp only[zk3]at he;split at he
      ·rename_i z' xs hown;split at he
       ·rename_i d hin;split at he
        ·rename_i hz;subst hz;split at he
         ·rename_i ex hex';split at he
          ·rename_i hc;simp only[Bool.and_eq_true,decide_eq_true_eq]at hc;obtain rfl:=Option.some.inj he;obtain⟨b,cap,hcv,hxz,hcells⟩:=h1.elem hown hex';obtain⟨b',n',cap',hcv',hv⟩:=hpt xs hown (List.getElem?_eq_some_iff.1 hex').1;have:=hcv.det hcv';simp only[Value.slice.injEq,Option.some.injEq,Addr.mk.injEq,and_true]at this;obtain⟨rfl,_,_⟩:=this;have hod:=zjt hin h2 h3;obtain⟨U,p1,p2,p3,p4,p5⟩:=hod.parts
           have hfU:Free g1 e1 w U:=⟨p3,λk s x hx hs=>by obtain⟨k',hk'⟩:=p2 k x hx;exact h3.S k' s x hk' hs,λk x b hx hb hlt=>by obtain⟨k',hk'⟩:=p2 k x hx;exact h3.box k' x b hk' hb hlt,
            λk x hx=>by obtain⟨k',hk'⟩:=p2 k x hx;exact h3.lt k' x hk',λk x o v hx hv=>by obtain⟨k',hk'⟩:=p2 k x hx;exact h3.c k' x o v hk' hv⟩
           obtain⟨g2,r1,r2,r3,r4,r5,r6,r7⟩:=zqd (ds:=d.cells) (us:=(a.eval y).cells.toList) (Y:=U) (x:=ex) (o:=off) h1 hown hex' (by omega) (by rw[Array.length_toList];exact p1)
            (λu hu=>by
             obtain⟨k,hk⟩:=List.mem_iff_getElem?.1 hu;have hlt:=(List.getElem?_eq_some_iff.1 hk).1;rw[Array.length_toList]at hlt;have:=p4 k (by omega)
             rwa [zfu hk]at this)
            (λk d' u hd' hu=>by have:=p5 k d' hd';rwa [zfu hu]at this) hfU hcv
           obtain⟨cur,el,q1,q2⟩:=h1.elemBlk hown hex' hcv;have hrun:=zlw (P:=P) (off:=i*z+off) hn (by rw[p1];exact hc.1) q1 (by omega) (λk hk=>p4 k (by omega))
           refine zqk (hex _ (by rw[show a.eval (.tmp tx)=_ from hv];exact hrun)) ⟨g2,r1,?_⟩ hd'
           obtain⟨s1,s2,s3⟩:=zfc (blk:=b) (a.eval y).cells.toList w (i*z+off);refine⟨s1.trans h4.os,s2.trans h4.tape,s3.trans h4.output,by rw[zc8];exact h4.size,λx hx hm=>?_,λx hx=>?_,by rw[r2];exact h4.c,λb' o' v hv=>h4.cnew b' o' v (by rw[<-r2];exact hv),λb' hb' =>⟨by rw[r3];exact(h4.lent b' hb').1,by rw[r4];exact(h4.lent b' hb').2⟩⟩
           ·by_cases hnil:d.cells=[]
            ·have hz:(a.eval y).cells.toList=[]:=List.eq_nil_of_length_eq_zero (by rw[Array.length_toList,p1,hnil];rfl)
             rw[hz];exact h4.old x hx hm
            ·rw[zfb _ w _ x (λe2=>(h4.mine b (.inl ⟨_,r7 hnil⟩)).elim (λh=>hm (e2▸h)) (λh=>by omega))]
           ·rcases hx with⟨s,hs⟩|⟨b',hb',hlt',hx⟩
            ·rcases r5 s x hs with hs|⟨k,hy⟩
             ·exact h4.mine x (.inl ⟨s,hs⟩)
             ·obtain⟨k',hk'⟩:=p2 k x hy;exact h5 k' x hk'
            ·rw[r6]at hb';exact h4.mine x (.inr ⟨b',hb',hlt',by rw[<-r3];exact hx⟩)
          ·cases he
         ·cases he
        ·cases he
       ·cases he
      ·cases he
     |_=>cases he
    ·cases he
   ·cases he
  ·cases he
 |_=>simp[zbe]at he
end Go.Qz
namespace Go.Qz
theorem zkd[Base]{g g1:G}{e e1:Env}{tm:Array Value}{w w1 w2:World}(h0:Sim g1 e1 tm w1)(hn:Next g e w g1 e1 w1){z cap:Nat}{xs:List D}{cur:Array Value}{el:TypeId}{U:Nat->Blk}(hf:Free g1 e1 w1 U)(hU:∀k x,U k x->Mine g e x∨w.heap.size<=x)
 (hold:∀x,x<w1.heap.size->w2.heap[x]? =w1.heap[x]?) (hos:w2.os=w1.os) (htape:w2.tape=w1.tape) (hout:w2.output=w1.output) (hnew:RowAt w2 w1.heap.size cur el)
 (hcur:cur.size=cap*z) (hle:xs.length<=cap) (hcap:cap<=maxLen) (hz:0<z) (hxz:∀x∈xs,x.cells.length=z) (h1:∀m,m<xs.length*z->(cur.getD m undef).oneCell' =true) (hown:∀m d,(xs.flatMap D.cells)[m]? =some d->OwnC w1 d (cur.getD m undef) (U m)):
 Holds g e tm w (.one (.own (.sl z xs))) (.slice (some ⟨w1.heap.size,0,none⟩) xs.length cap) e1 w2:=by
 have hsz:w1.heap.size<w2.heap.size:=by
  obtain⟨_,h,_⟩:=hnew;exact(Array.getElem?_eq_some_iff.1 h).1
 have h:=h0.grow (w':=w2) (by omega) hold
 have hrow:OwnC w2 (.sl z xs) (.slice (some ⟨w1.heap.size,0,none⟩) xs.length cap) (λx=>x=w1.heap.size∨ ∃m,U m x):=
  .row U hnew hcur hle hcap hz (.inl rfl) (λm x hx=>⟨.inr ⟨m,hx⟩,λe=>by have:=hf.lt m x hx;omega⟩) hf.one hxz h1 (λm d hd=>(hown m d hd).frame (λx hx=>hold x (hf.lt m x hx)))
 have hfB:FreeB g1 e1 w2 (λx=>x=w1.heap.size∨ ∃m,U m x):=by
  refine⟨λs x hx hs=>?_,λx b hx hb hlt=>?_,λx hx=>?_,λx o v hx hv=>?_⟩
  ·rcases hx with rfl|⟨m,hx⟩
   ·have:=h0.slt s _ hs;omega
   ·exact hf.S m s x hx hs
  ·rcases hx with rfl|⟨m,hx⟩
   ·obtain⟨cs,hcs⟩:=Option.isSome_iff_exists.1 hb;have:=h0.bx b cs hcs;unfold RepBox at this;rw[if_neg (by omega)]at this
    obtain⟨arr,e,h1,_⟩:=this;have:=(Array.getElem?_eq_some_iff.1 h1).1;omega
   ·exact hf.box m x b hx hb hlt
  ·rcases hx with rfl|⟨m,hx⟩
   ·omega
   ·have:=hf.lt m x hx;omega
  ·rcases hx with rfl|⟨m,hx⟩
   ·have:=World.block_lt_of_cell? w1 _ (h0.cmem _ o v hv);exact absurd this (Nat.lt_irrefl _)
   ·exact hf.c m x o v hx hv
 refine⟨g1,_,h,?_,hfB.free,⟨hos.trans hn.os,htape.trans hn.tape,hout.trans hn.output,Nat.le_trans hn.size (by omega),λx hx hm=>by rw[hold x (Nat.lt_of_lt_of_le hx hn.size)];exact hn.old x hx hm,hn.mine,hn.c,hn.cnew,hn.lent⟩,λk x hx=>?_⟩
 ·show OwnC _ _ _ (if 0=0 then _ else _)
  rw[if_pos rfl];exact hrow
 ·by_cases e1:k=0
  ·simp only[if_pos e1]at hx;rcases hx with rfl|⟨m,hx⟩
   ·exact .inr hn.size
   ·exact hU m x hx
  ·simp only[if_neg e1]at hx
theorem zh9[Base]{g g1:G}{e e1:Env}{tm:Array Value}{w w1:World}(h0:Sim g1 e1 tm w1)(hn:Next g e w g1 e1 w1){z cap:Nat}{xs:List D}{cur:Array Value}{el:TypeId}{U:Nat->Blk}(hf:Free g1 e1 w1 U)(hU:∀k x,U k x->Mine g e x∨w.heap.size<=x)
 (hcur:cur.size=cap*z) (hle:xs.length<=cap) (hcap:cap<=maxLen) (hz:0<z) (hxz:∀x∈xs,x.cells.length=z) (h1:∀m,m<xs.length*z->(cur.getD m undef).oneCell' =true) (hown:∀m d,(xs.flatMap D.cells)[m]? =some d->OwnC w1 d (cur.getD m undef) (U m)):
 Holds g e tm w (.one (.own (.sl z xs))) (.slice (some ⟨w1.heap.size,0,none⟩) xs.length cap) e1 (w1.alloc (.cells cur el)):=
 zkd h0 hn hf hU (λx hx=>Go.heap_alloc_old w1 _ x hx) rfl rfl rfl (.of (Go.heap_alloc_new w1 _)) hcur hle hcap hz hxz h1 hown
structure Apps(P:Program)(u:TypeId)(x:Value)(size m:Nat)(news:List Value)(w:World):Prop where
 ty:(∃d,P.underlying u=some (.slice d))∨P.underlying u=some .string
 len:∀w',(Builtin.lenOf x).run P w' =.ok m w'
 first:∀w':World,(∀y:Nat,w'.heap[y]? =w.heap[y]?)->(Builtin.firstCells size m x).run P w' =.ok news.toArray w'
section
variable{P:Program}{w:World}{t u ty e:TypeId}{i:TypeInfo}{zv:Value}
theorem zs3(ht:P.underlying t=some (.slice e))(hi:P.info? e=some i){x:Value}(h:Apps P u x i.size 0 [] w):
 (Builtin.append_ #[t,u] ty #[.slice none 0 0,x]).run P w=.ok (.slice none 0 0) w:=by
 have h1:=h.len;have h2:=h.first w (λ_=>rfl)
 rcases h.ty with⟨d,hu⟩|hu<;>simp[Builtin.append_,run_underlying ht,run_underlying hu,sizeOf,typeInfo,hi,h1,h2]
theorem zke(ht:P.underlying t=some (.slice e))(hi:P.info? e=some i){g sLen sCap m:Nat}{cur:Array Value}{el:TypeId}(hg:RowAt w g cur el){x:Value}{news:List Value}(h:Apps P u x i.size m news w)(h1:∀u∈news,u.oneCell' =true)
 (hroom:sLen+m<=sCap) (hfit:sLen*i.size+news.length<=cur.size):
 (Builtin.append_ #[t,u] ty #[.slice (some ⟨g,0,none⟩) sLen sCap,x]).run P w=.ok (.slice (some ⟨g,0,none⟩) (sLen+m) sCap) (zdv w g (sLen*i.size) news):=by
 have h3:=h.len;have h2:=h.first w (λ_=>rfl)
 have hst:=zlr (P:=P) (off:=sLen*i.size) (i:=0) (us:=news) hg (by simpa using hfit) h1
 rw[Nat.add_zero]at hst;have hadd:(⟨g,0,none⟩:Addr).add (sLen*i.size)=⟨g,sLen*i.size,none⟩:=by rw[zcg,Nat.zero_add]
 rcases h.ty with⟨d,hu⟩|hu<;>simp[Builtin.append_,run_underlying ht,run_underlying hu,sizeOf,typeInfo,hi,h3,h2,hroom,hadd,hst]
theorem zkf(ht:P.underlying t=some (.slice e))(hi:P.info? e=some i)(hz:i.zero=some zv){base:Option Addr}{sLen sCap m:Nat}{x:Value}{olds news:List Value}(h:Apps P u x i.size m news w)
 (holds:∀w':World,(∀y:Nat,w'.heap[y]? =w.heap[y]?)->(Builtin.firstCells i.size sLen (.slice base sLen sCap)).run P w' =.ok olds.toArray w') (hg:sCap<sLen+m) (h63:sLen+m<=9223372036854775807) (hb:(sLen+m)*i.bytes<=140737488355328):
 (Builtin.append_ #[t,u] ty #[.slice base sLen sCap,x]).run P w=.ok (.slice (some ⟨w.heap.size,0,none⟩) (sLen+m) (grownCap w (sLen+m) sCap e))
  (w.drew.alloc (.cells (olds.toArray++news.toArray++Builtin.zeroCells zv.cells (grownCap w (sLen+m) sCap e-(sLen+m))) e)):=by
 have h3:=h.len;have h2:=h.first w.drew (λ_=>rfl)
 have h4:=holds w.drew (λ_=>rfl)
 have hn:¬(sLen+m<=sCap):=by omega
 have h63':¬(9223372036854775807<((sLen:Int)+(m:Int))):=by omega
 have hfit:=growslice_fits hg hb;have h48':¬(281474976710656<Builtin.nextslicecap (sLen+m) sCap*i.bytes):=by omega
 rcases h.ty with⟨d,hu⟩|hu<;>simp[Builtin.append_,run_underlying ht,run_underlying hu,sizeOf,typeInfo,zeroValue,hi,hz,h3,hn,h63',h48',Question.forced,h2,h4,newRow,grownCap]<;>(congr 2;apply Array.ext';simp)
end
end Go.Qz
namespace Go.Qz
theorem Free.next{g g':G}{e e':Env}{w w':World}{Y:Nat->Blk}(h:Free g e w Y)(hn:Next g e w g' e' w'):Free g' e' w' Y:=by
 have hm:∀k x,Y k x-> ¬Mine g e x:=by
  intro k x hx hm;rcases hm with⟨s,hs⟩|⟨b,hb,hlt,e1⟩
  ·exact h.S k s x hx hs
  ·exact h.box k x b hx hb hlt e1
 have hm':∀k x,Y k x-> ¬Mine g' e' x:=by
  intro k x hx hm1;rcases hn.mine x hm1 with h1|h1
  ·exact hm k x hx h1
  ·have:=h.lt k x hx;omega
 refine⟨h.one,λk s x hx hs=>hm' k x hx (.inl ⟨s,hs⟩),λk x b hx hb hlt e1=>hm' k x hx (.inr ⟨b,hb,hlt,e1⟩),λk x hx=>Nat.lt_of_lt_of_le (h.lt k x hx) hn.size,λk x o v hx hv=>?_⟩
 rcases hn.cnew x o v hv with h1|h1|h1
 ·exact h.c k x o v hx h1
 ·exact hm k x hx h1
 ·have:=h.lt k x hx;omega
theorem Sim.world[Base]{g:G}{env:Env}{tm:Array Value}{w w':World}(h:Sim g env tm w)(hs:w.heap.size<=w'.heap.size)(hold:∀x,x<w.heap.size->(Mine g env x∨ ∃o v,g.c x o=some v)->w'.heap[x]? =w.heap[x]?):Sim g env tm w':=by
 have hβ:∀b,(env.box b).isSome=true->b<zab->w'.heap[g.β b]? =w.heap[g.β b]?:=by
  intro b hb hlt;obtain⟨cs,hcs⟩:=Option.isSome_iff_exists.1 hb;have:=h.bx b cs hcs;unfold RepBox at this;rw[if_neg (by omega)]at this
  obtain⟨arr,e,h1,_⟩:=this;exact hold _ (Array.getElem?_eq_some_iff.1 h1).1 (.inl (.inr ⟨b,hb,hlt,rfl⟩))
 have hS:∀s x,g.S s x->w'.heap[x]? =w.heap[x]?:=λs x hx=>hold x (h.slt s x hx) (.inl (.inl ⟨s,hx⟩))
 have K:zcy g env tm w g env tm w' (λ_=>True) (λ_=>True):=⟨λ_ _ _ hx=>hx,λl _ d' hd' =>⟨d',hd',λz xs' e=>⟨xs',e,Nat.le_refl _⟩,λv hv=>by
  have hl:=hd';simp only[Env.ownAt]at hl;split at hl
  ·rename_i D hD;exact h.conc hd' (λV hV=>RootV.world hD hβ V hV) (λx hx=>hS _ x hx) hv
  ·cases hl⟩,λb _ hb _=>⟨hb,rfl⟩⟩
 exact{
  size:=h.size
  tv:=λt=>(h.tv t).keep K (λk x hx=>⟨hx,hS _ x hx⟩)
  bx:=λb cs hcs=>(h.bx b cs hcs).keep K (λo x hx=>⟨hx,hS _ x hx⟩) (λhlt=>⟨rfl,hβ b (by rw[hcs];rfl) hlt⟩) (λ_=>rfl)
  binj:=h.binj
  sdis:=h.sdis
  sbox:=h.sbox
  slt:=λs x hx=>Nat.lt_of_lt_of_le (h.slt s x hx) hs
  cmem:=λb o v hv=>by
   have hc:=h.cmem b o v hv;have hlt:b<w.heap.size:=World.block_lt_of_cell? w _ hc;simp only[zbc]at hc ⊢;rw[World.cell?_of_block (w':=w') (w:=w) (hold b hlt (.inr ⟨o,v,hv⟩))];exact hc
  base:=h.base
  fix:=λx v hv=>(hold x (World.block_lt_of_cell? w _ (h.cmem _ _ _ (h.base _ _ _ hv))) (.inr ⟨0,v,h.base _ _ _ hv⟩)).trans (h.fix x v hv)
  cdis:=h.cdis}
theorem zlx{blk:Nat}{el:TypeId}:∀{us:List Value} {w:World} {o:Nat} {cur:Array Value},RowAt w blk cur el->o+us.length<=cur.size->
 ∃cur',RowAt (zdv w blk o us) blk cur' el/\cur'.size=cur.size/\ ∀k,cur'.getD k undef=if o<=k/\k<o+us.length then us.getD (k-o) undef else cur.getD k undef
 | [],w,o,cur,h,_=>⟨cur,h,rfl,λk=>by rw[if_neg (by simp only[List.length_nil];omega)]⟩
 |u::r,w,o,cur,h,hl=>by
  have ho:o<cur.size:=by simp at hl;omega
  obtain⟨cur',h1,h2,h3⟩:=zlx (us:=r) (o:=o+1) (h.set o u) (by simp at hl ⊢;omega)
  refine⟨cur',h1,by rw[h2];simp,λk=>?_⟩
  rw[h3 k,getD_setIf cur k o u ho];by_cases e:k=o
  ·subst e;rw[if_neg (by omega),if_pos rfl,if_pos (by simp)]
   simp
  ·rw[if_neg e];by_cases hk:o+1<=k/\k<o+1+r.length
   ·rw[if_pos hk,if_pos (by simp;omega)]
    have:k-o=(k-(o+1))+1:=by omega
    rw[this,List.getD_cons_succ]
   ·rw[if_neg hk,if_neg (by simp;omega)]
theorem zly[Base]{P:Program}{g g2:G}{e e2:Env}{tm:Array Value}{w:World}(h2:Sim g2 e2 tm w)(hn:Next g e w g2 e2 w){t u ty el:TypeId}{i:TypeInfo}{zv:Value}{z:Nat}(ht:P.underlying t=some (.slice el))(hi:P.info? el=some i)(hzv:i.zero=some zv)
 (hsize:i.size=z) (hz:0<z) (hby:i.bytes<=128) (hzs:zv.cells.size=z) {xs ys:List D} {v xv:Value} {Yx:Blk} (hx:OwnC w (.sl z xs) v Yx) (hfx:FreeB g2 e2 w Yx) (hYx:∀x,Yx x->Mine g e x∨w.heap.size<=x)
 {news:List Value} {U:Nat->Blk} (happ:Apps P u xv z ys.length news w) (hys:∀x∈ys,x.cells.length=z) (hnl:news.length=ys.length*z) (hn1:∀u∈news,u.oneCell' =true) (hno:∀m d,(ys.flatMap D.cells)[m]? =some d->OwnC w d (news.getD m undef) (U m))
 (hfU:Free g2 e2 w U) (hU:∀k x,U k x->Mine g e x∨w.heap.size<=x) (hdis:∀k x,U k x->Yx x->False) (hlen:xs.length+ys.length<=zaf):
 ∃v' w',(Builtin.append_ #[t,u] ty #[v,xv]).run P w=.ok v' w' /\Holds g e tm w (.one (.own (.sl z (xs++ys)))) v' e2 w':=by
 subst hsize;have h63:xs.length+ys.length<=9223372036854775807:=by simp only[zaf]at hlen;omega
 have hmax:xs.length+ys.length<=maxLen:=by simp only[zaf]at hlen;simp only[maxLen];omega
 have hbytes:(xs.length+ys.length)*i.bytes<=140737488355328:=by
  have h1:(xs.length+ys.length)*i.bytes<=zaf*128:=Nat.mul_le_mul hlen hby;have h3:zaf*128=140737488355328:=by decide
  omega
 have hflat:∀m d,((xs++ys).flatMap D.cells)[m]? =some d->((xs.flatMap D.cells)[m]? =some d/\m<(xs.flatMap D.cells).length)∨((ys.flatMap D.cells)[m-(xs.flatMap D.cells).length]? =some d/\(xs.flatMap D.cells).length<=m):=by
  intro m d hm;rw[List.flatMap_append]at hm;rcases Nat.lt_or_ge m (xs.flatMap D.cells).length with hlt|hge
  ·rw[List.getElem?_append_left hlt]at hm;exact .inl ⟨hm,hlt⟩
  ·rw[List.getElem?_append_right hge]at hm;exact .inr ⟨hm,hge⟩
 have hone:∀m,m<ys.length*i.size->(news.getD m undef).oneCell' =true:=by
  intro m hm;have:m<news.length:=by omega
  rw[List.getD_eq_getElem?_getD,List.getElem?_eq_getElem this];exact hn1 _ (List.getElem_mem _)
 have hXlen:∀(hxz:∀x∈xs,x.cells.length=i.size),(xs.flatMap D.cells).length=xs.length*i.size:=λhxz=>zat hxz
 have grow:∀(base:Option Addr) (cap:Nat) (olds:List Value) (Us:Nat->Blk),v=.slice base xs.length cap->cap<xs.length+ys.length->olds.length=xs.length*i.size->(∀x∈xs,x.cells.length=i.size)->
  (∀w':World,(∀y:Nat,w'.heap[y]? =w.heap[y]?)->(Builtin.firstCells i.size xs.length (.slice base xs.length cap)).run P w' =.ok olds.toArray w')->(∀m,m<xs.length*i.size->(olds.getD m undef).oneCell' =true)->
  (∀m d,(xs.flatMap D.cells)[m]? =some d->OwnC w d (olds.getD m undef) (Us m))->(∀m x,Us m x->Yx x)->(∀m m' x,Us m x->Us m' x->m=m')->
  ∃v' w',(Builtin.append_ #[t,u] ty #[v,xv]).run P w=.ok v' w' /\Holds g e tm w (.one (.own (.sl i.size (xs++ys)))) v' e2 w':=by
  intro base cap olds Us hv hcap hol hxz hfirst ho1 hoo hUs hUs1;subst hv;have hr:=zkf (ty:=ty) ht hi hzv happ hfirst hcap h63 hbytes;have hge:=grownCap_ge w (xs.length+ys.length) cap el;have hcm:=grownCap_le_maxLen w (xs.length+ys.length) cap el hmax;have hXl:=hXlen hxz;have hlen2:(xs++ys).length=xs.length+ys.length:=List.length_append
  have hget:∀m,m<(xs.length+ys.length)*i.size->(olds.toArray++news.toArray++Builtin.zeroCells zv.cells (grownCap w (xs.length+ys.length) cap el-(xs.length+ys.length))).getD m undef=if m<xs.length*i.size then olds.getD m undef else news.getD (m-xs.length*i.size) undef:=by
   intro m hm;rw[Nat.add_mul]at hm;rw[Array.getD_eq_getD_getElem?,Array.getElem?_append_left (by simp[hol,hnl];exact hm)]
   by_cases hlt:m<xs.length*i.size
   ·rw[if_pos hlt,Array.getElem?_append_left (by simpa [hol]using hlt),List.getD_eq_getElem?_getD]
    simp
   ·rw[if_neg hlt,Array.getElem?_append_right (by simp[hol];omega),List.getD_eq_getElem?_getD]
    simp[hol]
  have hs2:Sim g2 e2 tm w.drew:=h2.grow (Nat.le_refl _) (λ_ _=>rfl)
  have hn2:Next g e w g2 e2 w.drew:=⟨hn.os,hn.tape,hn.output,hn.size,hn.old,hn.mine,hn.c,hn.cnew,hn.lent⟩
  have hfree:Free g2 e2 w.drew (λm x=>if m<xs.length*i.size then Us m x else U (m-xs.length*i.size) x):=by
   refine⟨λk k' x hx hx' =>?_,λk s x hx hs=>?_,λk x b hx hb hlt=>?_,λk x hx=>?_,λk x o v hx hv=>?_⟩
   ·by_cases c1:k<xs.length*i.size<;>by_cases c2:k' <xs.length*i.size
    ·simp only[if_pos c1]at hx;simp only[if_pos c2]at hx';exact hUs1 k k' x hx hx'
    ·simp only[if_pos c1]at hx;simp only[if_neg c2]at hx';exact(hdis _ x hx' (hUs k x hx)).elim
    ·simp only[if_neg c1]at hx;simp only[if_pos c2]at hx';exact(hdis _ x hx (hUs k' x hx')).elim
    ·simp only[if_neg c1]at hx;simp only[if_neg c2]at hx';have:=hfU.one _ _ x hx hx';omega
   ·split at hx
    ·exact hfx.S s x (hUs k x hx) hs
    ·exact hfU.S _ s x hx hs
   ·split at hx
    ·exact hfx.box x b (hUs k x hx) hb hlt
    ·exact hfU.box _ x b hx hb hlt
   ·split at hx
    ·exact hfx.lt x (hUs k x hx)
    ·exact hfU.lt _ x hx
   ·split at hx
    ·exact hfx.c x o v (hUs k x hx) hv
    ·exact hfU.c _ x o v hx hv
  have hh:=zh9 (z:=i.size) (cap:=grownCap w (xs.length+ys.length) cap el) (xs:=xs++ys) (el:=el) (cur:=olds.toArray++news.toArray++Builtin.zeroCells zv.cells (grownCap w (xs.length+ys.length) cap el-(xs.length+ys.length))) hs2 hn2 hfree
   (λk x hx=>by
    split at hx
    ·exact hYx x (hUs k x hx)
    ·exact hU _ x hx)
   (by
    simp only[Array.size_append,List.size_toArray,size_zeroCells,hzs,hol,hnl,<-Nat.add_mul];congr 1
    omega)
   (by rw[hlen2];exact hge) hcm hz (λx hx=>by
    rcases List.mem_append.1 hx with h1|h1
    ·exact hxz x h1
    ·exact hys x h1)
   (λm hm=>by
    rw[hlen2]at hm;rw[hget m hm];split
    ·rename_i hlt;exact ho1 m hlt
    ·rename_i hlt;rw[Nat.add_mul]at hm;exact hone _ (by omega))
   (λm d hm=>by
    have hm':m<(xs.length+ys.length)*i.size:=by
     have:=(List.getElem?_eq_some_iff.1 hm).1;rw[List.flatMap_append,List.length_append,hXl,zat hys,<-Nat.add_mul]at this;exact this
    rw[hget m hm'];rcases hflat m d hm with⟨h1,hlt⟩|⟨h1,hge'⟩
    ·rw[hXl]at hlt;rw[if_pos hlt];simp only[if_pos hlt];exact(hoo m d h1).frame (λ_ _=>rfl)
    ·rw[hXl]at hge' h1;rw[if_neg (by omega)]
     simp only[if_neg (show ¬m<xs.length*i.size by omega)]
     exact(hno _ d h1).frame (λ_ _=>rfl))
  rw[hlen2]at hh;exact⟨_,_,hr,hh⟩
 cases hx with
 |flat hf _=>simp[D.flat]at hf
 |nil=>
  by_cases hm:ys=[]
  ·subst hm;have hnn:news=[]:=List.eq_nil_of_length_eq_zero (by simpa using hnl)
   subst hnn;refine⟨_,w,zs3 (ty:=ty) ht hi happ,g2,λ_ _=>False,h2,.nil,zaw _ _ _,hn,λ_ _ hx=>hx.elim⟩
  ·have hpos:0<ys.length:=List.length_pos_iff.2 hm;exact grow none 0 [] (λ_ _=>False) rfl (by simpa using hpos) (by simp) (λx hx=>by simp at hx) (λw' _=>by simp[Builtin.firstCells]) (λm hm=>by simp at hm) (λm d hm=>by simp at hm) (λ_ _ h=>h.elim) (λ_ _ _ h=>h.elim)
 | @row _ _ b cap el' cur T Us p1 p2 p3 p4 p5 p6 p7 p8 p9 p10 p11=>
   have hXl:=hXlen p9;have hcs:∀m,m<xs.length*i.size->m<cur.size:=λm hm=>by rw[p2];exact Nat.lt_of_lt_of_le hm (Nat.mul_le_mul_right _ p3)
   by_cases hroom:xs.length+ys.length<=cap
   ·have hfit:xs.length*i.size+news.length<=cur.size:=by rw[hnl,p2,<-Nat.add_mul];exact Nat.mul_le_mul_right _ hroom
    have hr:=zke (ty:=ty) ht hi p1 happ hn1 hroom hfit;obtain⟨cur',q1,q2,q3⟩:=zlx (us:=news) (o:=xs.length*i.size) p1 hfit;have hheap:∀x,x≠b->(zdv w b (xs.length*i.size) news).heap[x]? =w.heap[x]?:=λx hx=>zfb news w _ x hx
    have hbm:¬Mine g2 e2 b:=by
     rintro(⟨s,hs⟩|⟨b',hb,hlt,e1⟩)
     ·exact hfx.S s b p6 hs
     ·exact hfx.box b b' p6 hb hlt e1
    have hs':Sim g2 e2 tm (zdv w b (xs.length*i.size) news):=h2.world (by rw[zc8];exact Nat.le_refl _) (λx hx hm=>hheap x (λe1=>by
     subst e1;rcases hm with hm|⟨o,v,hv⟩
     ·exact hbm hm
     ·exact hfx.c x o v p6 hv))
    have hlen2:(xs++ys).length=xs.length+ys.length:=List.length_append
    have hrow:OwnC (zdv w b (xs.length*i.size) news) (.sl i.size (xs++ys)) (.slice (some ⟨b,0,none⟩) (xs++ys).length cap) (λx=>Yx x∨ ∃k,U k x):=by
     refine .row (λm x=>if m<xs.length*i.size then Us m x else U (m-xs.length*i.size) x) q1 (by rw[q2];exact p2) (by rw[hlen2];exact hroom) p4 p5 (.inl p6) (λm x hx=>?_) (λk k' x hx hx' =>?_) (λx hx=>?_) (λm hm=>?_) (λm d hm=>?_)
     ·by_cases hc:m<xs.length*i.size
      ·simp only[if_pos hc]at hx;exact⟨.inl (p7 m x hx).1,(p7 m x hx).2⟩
      ·simp only[if_neg hc]at hx;exact⟨.inr ⟨_,hx⟩,λe1=>hdis _ x hx (e1▸p6)⟩
     ·by_cases c1:k<xs.length*i.size<;>by_cases c2:k' <xs.length*i.size
      ·simp only[if_pos c1]at hx;simp only[if_pos c2]at hx';exact p8 k k' x hx hx'
      ·simp only[if_pos c1]at hx;simp only[if_neg c2]at hx';exact(hdis _ x hx' (p7 k x hx).1).elim
      ·simp only[if_neg c1]at hx;simp only[if_pos c2]at hx';exact(hdis _ x hx (p7 k' x hx').1).elim
      ·simp only[if_neg c1]at hx;simp only[if_neg c2]at hx';have:=hfU.one _ _ x hx hx';omega
     ·rcases List.mem_append.1 hx with h1|h1
      ·exact p9 x h1
      ·exact hys x h1
     ·rw[hlen2,Nat.add_mul]at hm;rw[q3 m];by_cases hc:m<xs.length*i.size
      ·rw[if_neg (by omega)];exact p10 m hc
      ·rw[if_pos (by omega)];exact hone _ (by omega)
     ·rw[q3 m];rcases hflat m d hm with⟨h1,hlt⟩|⟨h1,hge'⟩
      ·rw[hXl]at hlt;rw[if_neg (by omega)]
       simp only[if_pos hlt];exact(p11 m d h1).frame (λx hx=>hheap x (p7 m x hx).2)
      ·rw[hXl]at hge' h1;have hlt2:=(List.getElem?_eq_some_iff.1 h1).1;rw[zat hys]at hlt2;rw[if_pos (by omega)]
       simp only[if_neg (show ¬m<xs.length*i.size by omega)]
       exact(hno _ d h1).frame (λx hx=>hheap x (λe1=>hdis _ x hx (e1▸p6)))
    rw[hlen2]at hrow;refine⟨_,_,hr,g2,λk x=>k=0/\(Yx x∨ ∃k,U k x),hs',?_,⟨λk k' x hx hx' =>by rw[hx.1,hx'.1],λk s x hx hs=>?_,λk x b hx hb hlt=>?_,λk x hx=>?_,λk x o v hx hv=>?_⟩,?_,λk x hx=>?_⟩
    ·exact hrow.mono (λx hx=>⟨rfl,hx⟩)
    ·rcases hx.2 with hx|⟨k,hx⟩
     ·exact hfx.S s x hx hs
     ·exact hfU.S k s x hx hs
    ·rcases hx.2 with hx|⟨k,hx⟩
     ·exact hfx.box x b hx hb hlt
     ·exact hfU.box k x b hx hb hlt
    ·rw[zc8];rcases hx.2 with hx|⟨k,hx⟩
     ·exact hfx.lt x hx
     ·exact hfU.lt k x hx
    ·rcases hx.2 with hx|⟨k,hx⟩
     ·exact hfx.c x o v hx hv
     ·exact hfU.c k x o v hx hv
    ·obtain⟨s1,s2,s3⟩:=zfc (blk:=b) news w (xs.length*i.size);refine⟨s1.trans hn.os,s2.trans hn.tape,s3.trans hn.output,by rw[zc8];exact hn.size,λx hx hm=>?_,hn.mine,hn.c,hn.cnew,hn.lent⟩
     rw[hheap x (λe1=>by
      subst e1;rcases hYx x p6 with h1|h1
      ·exact hm h1
      ·omega)]
    ·rcases hx.2 with hx|⟨k,hx⟩
     ·exact hYx x hx
     ·exact hU k x hx
   ·refine grow (some ⟨b,0,none⟩) cap (cur.toList.take (xs.length*i.size)) Us rfl (by omega) ?_ p9 ?_ ?_ ?_ (λm x hx=>(p7 m x hx).1) p8
    ·rw[List.length_take,show cur.toList.length=cur.size from Array.length_toList]
     exact Nat.min_eq_left (by rw[p2];exact Nat.mul_le_mul_right _ p3)
    ·intro w' hw';refine run_firstCells_some w' i.size xs.length ⟨b,0,none⟩ xs.length cap _ ?_ (λj u hj=>?_)
     ·rw[List.length_take,show cur.toList.length=cur.size from Array.length_toList]
      exact Nat.min_eq_left (by rw[p2];exact Nat.mul_le_mul_right _ p3)
     ·rw[List.getElem?_take]at hj;split at hj
      ·rename_i hjl;rw[zcg,Nat.zero_add,World.cell?_of_block (w':=w') (w:=w) (hw' b)];rw[Array.getElem?_toList]at hj;rw[p1.cell (hcs j hjl),Array.getD_eq_getD_getElem?,hj];rfl
      ·cases hj
    ·intro m hm;have:=p10 m hm;rw[List.getD_eq_getElem?_getD,List.getElem?_take,if_pos hm,Array.getElem?_toList,<-Array.getD_eq_getD_getElem?];exact this
    ·intro m d hm;have hlt:=(List.getElem?_eq_some_iff.1 hm).1;rw[hXl]at hlt;rw[List.getD_eq_getElem?_getD,List.getElem?_take,if_pos hlt,Array.getElem?_toList,<-Array.getD_eq_getD_getElem?];exact p11 m d hm
end Go.Qz
