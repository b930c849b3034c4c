import Derived.Test.YtddfkpkieamlpaaGreatDoorQf0
import Derived.Laws.StructEq
namespace Go.Qz
theorem RO.int_inv{c:Mem}{k:IntKind}{n:Int}{v:Value}(h:RO c (.int k n) v):v=.int k n:=by cases h;rfl
theorem RO.bool_inv{c:Mem}{b:Bool}{v:Value}(h:RO c (.bool b) v):v=.bool b:=by cases h;rfl
theorem RO.str_inv{c:Mem}{s:ByteArray}{v:Value}(h:RO c (.str s) v):v=.string s:=by cases h;rfl
theorem RO.nilp_inv{c:Mem}{v:Value}(h:RO c .nilp v):v=.pointer none:=by cases h;rfl
theorem RO.nili_inv{c:Mem}{v:Value}(h:RO c .nili v):v=.nilIface:=by cases h;rfl
theorem RO.iface_inv{c:Mem}{t:TypeId}{d:D}{v:Value}(h:RO c (.iface t d) v):∃u,v=.iface t u/\RO c d u:=by cases h with|iface h=>exact⟨_,rfl,h⟩
theorem RO.sl_inv{c:Mem}{z:Nat}{xs:List D}{v:Value}(h:RO c (.sl z xs) v):∃a cap,v=.slice a xs.length cap/\xs.length<=cap/\(xs≠[]-> ∃(b off:Nat) (u:Nat->Value),a=some ⟨b,off,none⟩/\(∀x∈xs,x.cells.length=z)/\(∀m,m<xs.length*z->c b (off+m)=some (u m)/\(u m).oneCell' =true)/\
 ∀m d,(xs.flatMap D.cells)[m]? =some d->RO c d (u m)):=by
 cases h with
 |sl0=>exact⟨_,_,rfl,Nat.zero_le _,λh=>absurd rfl h⟩
 | @sl z xs b off cap u hc h1 h2 h3=>exact⟨_,_,rfl,hc,λ_=>⟨b,off,u,rfl,h1,h2,h3⟩⟩
theorem RO.agg_inv{c:Mem}{ds:List D}{v:Value}(h:RO c (.agg ds) v):∃vs,v=.agg vs/\vs.size=ds.length/\(∀m,m<ds.length->(vs.getD m undef).oneCell' =true)/\ ∀m d,ds[m]? =some d->RO c d (vs.getD m undef):=by
 cases h with
 |agg h1 h2 h3=>exact⟨_,rfl,h1,h2,h3⟩
theorem RO.flatG{c c':Mem}{d:D}{v:Value}(h:RO c d v)(hf:d.flat=true):RO c' d v:=RO.mono (zox _) (h.flat hf)
def ofD:D->Value
 | .int k n=>.int k n
 | .bool b=>.bool b
 | .str s=>.string s
 |_=>undef
section
variable{P:Program}{w:World}
theorem zzh{t:TypeId}{op:BinOp}{k:IntKind}{a b:Int}{d:D}(h:zv2 op k a b=some d):(binOp op t (.int k a) (.int k b)).run P w=.ok (ofD d) w/\ ∀c,RO c d (ofD d):=by
 cases op<;>simp only[zv2]at h<;>first
  |(cases h;done)
  |(split at h<;>first|(cases h;done)|(rename_i hb;obtain rfl:=Option.some.inj h;exact⟨by simp[binOp,Op.intDiv,hb,ofD],λc=>by constructor⟩))
  |(obtain rfl:=Option.some.inj h;exact⟨by simp[binOp,Op.intArith,Op.intBits,Op.intCmp,ofD],λc=>by constructor⟩)
theorem zzi{t:TypeId}{op:BinOp}{a b:ByteArray}{d:D}(h:z2n op a b=some d):(binOp op t (.string a) (.string b)).run P w=.ok (ofD d) w/\ ∀c,RO c d (ofD d):=by
 cases op<;>simp only[z2n]at h<;>first
  |(cases h;done)
  |(obtain rfl:=Option.some.inj h;exact⟨by simp[binOp,Op.stringOp,ofD],λc=>by constructor⟩)
  |(split at h
    ·rename_i hle;obtain rfl:=Option.some.inj h;refine⟨?_,λc=>.str _⟩
     have:¬((a.size+b.size:Nat):Int)>IntKind.i64.max:=by
      have e:IntKind.i64.max=9223372036854775807:=by decide
      rw[e];simp only[zag]at hle;omega
     simp only[binOp,Op.stringOp,if_neg this];rfl
    ·cases h)
theorem zd2{t:TypeId}{u v:Value}{r:Result Bool}(h:∀d,(Op.equalIn (d+1) t u v).run P w=r):(Op.equal t u v).run P w=r:=h 9999
theorem RO.agg_cells{c:Mem}{ds:List D}{u:Value}(h:RO c (.agg ds) u):∃vs,u=.agg vs/\ ∀(k:Nat) (d:D),ds[k]? =some d-> ∃v,vs[k]? =some v/\RO c d v:=by
 obtain⟨vs,rfl,h1,_,h3⟩:=h.agg_inv;refine⟨vs,rfl,λk d hd=>⟨vs.getD k undef,?_,h3 k d hd⟩⟩
 have hk:k<vs.size:=by have:=(List.getElem?_eq_some_iff.1 hd).1;omega
 simp[Array.getD_eq_getD_getElem?,hk]
theorem zls{f:TypeId}{cs:Array Value}{off:Nat}{v:Value}(hu:P.underlying f=some .string)(h:cs[off]? =some v):(part f cs off).run P w=.ok v w:=by
 simp[part,isAgg,run_underlying hu,h]
theorem zlt{f:TypeId}{k:IntKind}{cs:Array Value}{off:Nat}{v:Value}(hu:P.underlying f=some (.int k))(h:cs[off]? =some v):(part f cs off).run P w=.ok v w:=by
 simp[part,isAgg,run_underlying hu,h]
theorem zh8{as bs:List D}{xs ys:Array Value}{c:Mem}(hx:∀(k:Nat) (d:D),as[k]? =some d-> ∃v,xs[k]? =some v/\RO c d v)(hy:∀(k:Nat) (d:D),bs[k]? =some d-> ∃v,ys[k]? =some v/\RO c d v)(n:Nat):
 ∀{fs:List Field} {r:Bool},zg1 P as bs fs=some r->(Op.eqFields (n+1) xs ys fs).run P w=.ok r w
 | [],r,h=>by cases h;rfl
 |f::fs,r,h=>by
  rw[zg1]at h;split at h
  ·cases h
  ·rename_i hnm;rw[Op.eqFields,if_pos hnm];split at h
   ·rename_i a b hu ha hb;obtain⟨v,hv,hr⟩:=hx _ _ ha;obtain rfl:=hr.str_inv;obtain⟨v,hv',hr⟩:=hy _ _ hb;obtain rfl:=hr.str_inv;split at h
    ·rename_i q hq;cases h;have ih:=zh8 hx hy n hq;simp only[Sem.run_bind,zls hu hv,zls hu hv',Result.andThen_ok,run_equalIn_string w n f.type a b hu]
     cases hab:a.toList==b.toList with
     |true=>simp[ih]
     |false=>simp
    ·cases h
   ·rename_i k0 k a k' b hu ha hb;obtain⟨v,hv,hr⟩:=hx _ _ ha;obtain rfl:=hr.int_inv;obtain⟨v,hv',hr⟩:=hy _ _ hb;obtain rfl:=hr.int_inv;split at h
    ·rename_i hk;subst hk;split at h
     ·rename_i q hq;cases h;have ih:=zh8 hx hy n hq;simp only[Sem.run_bind,zlt hu hv,zlt hu hv',Result.andThen_ok,run_equalIn_int w n f.type k k0 a b hu]
      cases hab:a==b with
      |true=>simp[ih]
      |false=>simp
     ·cases h
    ·cases h
   ·cases h
theorem zu6{t:TypeId}{x y:Operand}{a b:D}{u v:Value}{r:Bool}{c:Mem}(h:evEq P t x y a b=some r)(ha:RO c a u)(hb:RO c b v):
 (∀op,(eqGuard op t x y u v).run P w=.ok () w)/\(Op.equal t u v).run P w=.ok r w/\(∀op,op=.eql∨op=.neq->binOp op t u v=(match op with| .eql=>(do pure (.bool (<-Op.equal t u v)))|_=>(do pure (.bool (!(<-Op.equal t u v)))):Sem Value)):=by
 unfold evEq at h;split at h
 ·rename_i ht;obtain rfl:=ha.bool_inv;obtain rfl:=hb.bool_inv;obtain rfl:=Option.some.inj h;exact⟨λop=>by cases op<;>simp[eqGuard],zd2 (λd=>by simp[Op.equalIn,run_underlying ht]),λop ho=>by rcases ho with rfl|rfl<;>rfl⟩
 ·rename_i ht;obtain rfl:=ha.nilp_inv;obtain rfl:=hb.nilp_inv;obtain rfl:=Option.some.inj h;refine⟨λop=>by cases op<;>simp[eqGuard],?_,λop ho=>by rcases ho with rfl|rfl<;>rfl⟩
  exact zd2 (λd=>by simp[Op.equalIn,run_underlying ht])
 ·rename_i ht;obtain rfl:=ha.nili_inv;obtain rfl:=hb.nili_inv;split at h
  ·rename_i hc;obtain rfl:=Option.some.inj h;refine⟨λop=>?_,?_,λop ho=>by rcases ho with rfl|rfl<;>rfl⟩
   ·cases x<;>cases y<;>simp[Operand.isConst]at hc<;>cases op<;>simp[eqGuard]
   ·exact zd2 (λd=>by simp[Op.equalIn,run_underlying ht])
  ·cases h
 ·rename_i ht;obtain rfl:=ha.nili_inv;obtain⟨q,rfl,_⟩:=hb.iface_inv;obtain rfl:=Option.some.inj h;refine⟨λop=>by cases op<;>simp[eqGuard],?_,λop ho=>by rcases ho with rfl|rfl<;>rfl⟩
  exact zd2 (λd=>by simp[Op.equalIn,run_underlying ht])
 ·rename_i ht;obtain⟨q,rfl,_⟩:=ha.iface_inv;obtain rfl:=hb.nili_inv;obtain rfl:=Option.some.inj h;refine⟨λop=>by cases op<;>simp[eqGuard],?_,λop ho=>by rcases ho with rfl|rfl<;>rfl⟩
  exact zd2 (λd=>by simp[Op.equalIn,run_underlying ht])
 ·rename_i fs as bs ht;split at h
  ·rename_i hg;simp only[Bool.and_eq_true,Bool.not_eq_true']at hg;obtain⟨xs,rfl,hxs⟩:=ha.agg_cells;obtain⟨ys,rfl,hys⟩:=hb.agg_cells;have hfs:P.fieldsOf t=fs:=by unfold Program.fieldsOf;rw[ht]
   refine⟨λop=>run_eqGuard_agg w op t x y xs ys hg.2,?_,λop ho=>by rcases ho with rfl|rfl<;>rfl⟩
   show (Op.equalIn (9999+1) t (.agg xs) (.agg ys)).run P w=_;rw[run_equalIn_struct w 9999 t xs ys (by rw[hfs];exact ht) hg.1,hfs]
   exact zh8 hxs hys 9998 h
  ·cases h
 ·cases h
theorem zzj{t:TypeId}{op:BinOp}{x y:Operand}{a b d:D}{u v:Value}{c:Mem}(h:z2o P op t x y a b=some d)(ha:RO c a u)(hb:RO c b v):
 (do eqGuard op t x y u v;binOp op t u v:Sem Value).run P w=.ok (ofD d) w/\ ∀c,RO c d (ofD d):=by
 unfold z2o at h;split at h
 ·obtain rfl:=ha.int_inv;obtain rfl:=hb.int_inv;have hg:∀k a k' b,(eqGuard op t x y (.int k a) (.int k' b)).run P w=.ok () w:=λk a k' b=>by cases op<;>simp[eqGuard]
  split at h
  ·split at h
   ·cases h
   ·rename_i hn;obtain rfl:=Option.some.inj h;exact⟨by simp[hg,binOp,Op.shift,hn,ofD],λc=>by constructor⟩
  ·split at h
   ·cases h
   ·rename_i hn;obtain rfl:=Option.some.inj h;exact⟨by simp[hg,binOp,Op.shift,hn,ofD],λc=>by constructor⟩
  ·split at h
   ·rename_i hk;subst hk;obtain⟨h1,h2⟩:=zzh (P:=P) (w:=w) (t:=t) h;exact⟨by simp[hg,h1],h2⟩
   ·cases h
 ·obtain rfl:=ha.str_inv;obtain rfl:=hb.str_inv;have hg:∀a b,(eqGuard op t x y (.string a) (.string b)).run P w=.ok () w:=λa b=>by cases op<;>simp[eqGuard]
  obtain⟨h1,h2⟩:=zzi (P:=P) (w:=w) (t:=t) h;exact⟨by simp[hg,h1],h2⟩
 ·split at h
  ·split at h
   ·rename_i r hr;obtain rfl:=Option.some.inj h;obtain⟨h1,h2,h3⟩:=zu6 (w:=w) hr ha hb;rw[h3 .eql (.inl rfl)];exact⟨by simp[h1,h2,ofD],λc=>by constructor⟩
   ·cases h
  ·split at h
   ·rename_i r hr;obtain rfl:=Option.some.inj h;obtain⟨h1,h2,h3⟩:=zu6 (w:=w) hr ha hb;rw[h3 .neq (.inr rfl)];exact⟨by simp[h1,h2,ofD],λc=>by constructor⟩
   ·cases h
  ·cases h
theorem z25{op:UnOp}{a d:D}{u:Value}{c:Mem}(h:evUn op a=some d)(ha:RO c a u):(Op.unary op u).run P w=.ok (ofD d) w/\ ∀c,RO c d (ofD d):=by
 unfold evUn at h;split at h
 ·obtain rfl:=ha.bool_inv;split at h
  ·obtain rfl:=Option.some.inj h;exact⟨by simp[Op.unary,ofD],λc=>by constructor⟩
  ·cases h
 ·obtain rfl:=ha.int_inv;split at h
  ·obtain rfl:=Option.some.inj h;exact⟨by simp[Op.unary,Op.intArith,ofD],λc=>by constructor⟩
  ·simp only[zv2,Option.some.injEq]at h;subst h;exact⟨by simp[Op.unary,Op.intBits,ofD],λc=>by constructor⟩
  ·cases h
 ·cases h
end
end Go.Qz
