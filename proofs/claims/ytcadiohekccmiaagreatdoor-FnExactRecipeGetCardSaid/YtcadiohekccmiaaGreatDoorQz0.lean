import Derived.Test.YtcadiohekccmiaaGreatDoorQx0
import Derived.WalkKit
import Derived.LaidEql
import Derived.Stop.Asserts
import Derived.RowKitTokens
namespace Go.Qz
open Go.Proofs Go.RowKit Go.Extern.Stop Go.Stop Go.Extern
theorem yew(t:Value)(w:World):Calls Tryz.prog 182 #[.nilIface,t] w λe w' =>e=.returned (.bool false)/\w' =w:=by
 go_enter Tryz.func182,Tryz.ntmps182
 go_wp2
 go_ret
 exact⟨rfl,rfl⟩
abbrev hnd(t:Nat):Value:=.pointer (some ⟨4,t,none⟩)
theorem zxi(t:Addr)(w:World):(ReflectliteValue.unpack (.iface 197 (.pointer (some t)))).run Tryz.prog w
 =.ok (.agg #[hnd 197,.pointer (some ⟨w.heap.size,0,none⟩),.int .u64 150]) (w.alloc (.cells #[.pointer (some t)] 197)):=by kernel_rfl
theorem z8r(a:Addr)(w:World):(ReflectliteValue.methodAny (ReflectliteValue.valueError "reflectlite.Value.Type" 0) (λt _ _ _=>ReflectliteType.toType t) #[.agg #[hnd 197,.pointer (some a),.int .u64 150]]).run Tryz.prog w
 =.ok (.iface 246 (.agg #[hnd 197])) w:=by kernel_rfl
theorem zrh(h:Value)(w:World):(Go.method 389 246 (.agg #[h]) "Kind").run Tryz.prog w=.ok (240,h) w:=by kernel_rfl
theorem z8s(w:World):((ReflectliteType.abiMethod λt=>(λa:Nat=>Value.int IntKind.u8 (a:Int))<$>Rtype.kind t) #[hnd 197]).run Tryz.prog w=.ok (.int .u8 22) w:=by kernel_rfl
theorem z8t(w:World):((ReflectliteType.abiMethod λt=>(λa:Nat=>Value.int IntKind.u8 (a:Int))<$>Rtype.kind t) #[hnd 195]).run Tryz.prog w=.ok (.int .u8 25) w:=by kernel_rfl
theorem yav(z:Sem Value)(f:TypeId->Addr->Nat->Nat->Sem Value)(v:Value):
 ReflectliteValue.method z f #[v]=(do match <-ReflectliteValue.parts v with|none=>z|some (t,a,fl)=>f t a fl (fl % 32)):=rfl
theorem zt8(a:Addr)(w:World):(ReflectliteValue.parts (.agg #[hnd 197,.pointer (some a),.int .u64 150])).run Tryz.prog w=.ok (some (197,a,150)) w:=by kernel_rfl
theorem z8u(a p:Addr)(W:World)(ha:W.cell? a=some (.pointer (some p))):
 (ReflectliteValue.method (ReflectliteValue.valueError "reflectlite.Value.IsNil" 0) ReflectliteValue.isNil #[.agg #[hnd 197,.pointer (some a),.int .u64 150]]).run Tryz.prog W=.ok (.bool false) W:=by
 rw[yav];simp only[Sem.run_bind,zt8,Result.andThen];simp[ReflectliteValue.isNil,loadVar,isAgg,underlying,Tryz.underlying197,ha,Result.andThen]
theorem zri(h:Value)(w:World):(Go.method 389 246 (.agg #[h]) "Elem").run Tryz.prog w=.ok (252,.agg #[h]) w:=by kernel_rfl
theorem zjy(h:Value)(w:World):(Go.method 389 246 (.agg #[h]) "Implements").run Tryz.prog w=.ok (253,.agg #[h]) w:=by kernel_rfl
theorem zh9(h:Value)(w:World):(Go.method 389 246 (.agg #[h]) "AssignableTo").run Tryz.prog w=.ok (250,.agg #[h]) w:=by kernel_rfl
theorem z8v(w:World):(ReflectliteType.method ReflectliteType.elem #[.agg #[hnd 197]]).run Tryz.prog w=.ok (.iface 246 (.agg #[hnd 195])) w:=by kernel_rfl
theorem zrj(w:World):(ReflectliteType.relation "Implements" ReflectliteType.implements_ #[.agg #[hnd 195],.iface 246 (.agg #[hnd 88])]).run Tryz.prog w=.ok (.bool true) w:=by kernel_rfl
theorem z5g(v:Value)(w:World):(ReflectliteType.typeOf #[.iface 195 v]).run Tryz.prog w=.ok (.iface 246 (.agg #[hnd 195])) w:=by kernel_rfl
theorem zrk(w:World):(ReflectliteType.relation "AssignableTo" ReflectliteType.assignableTo #[.agg #[hnd 195],.iface 246 (.agg #[hnd 195])]).run Tryz.prog w=.ok (.bool true) w:=by kernel_rfl
theorem zxj(c:Int)(w:World):(ReflectliteValue.unpack (.iface 195 (.agg #[.int .i64 c]))).run Tryz.prog w
 =.ok (.agg #[hnd 195,.pointer (some ⟨w.heap.size,0,none⟩),.int .u64 153]) (w.alloc (.cells #[.int .i64 c] 195)):=by kernel_rfl
theorem z5h(w:World):(Rtype.elem? 197).run Tryz.prog w=.ok (some 195) w:=by kernel_rfl
theorem ylj(p:Addr)(w:World):(ReflectliteValue.mk 195 p ReflectliteValue.flagAddr).run Tryz.prog w=.ok (.agg #[hnd 195,.pointer (some p),.int .u64 409]) w:=by kernel_rfl
theorem z8w(a p:Addr)(W:World)(ha:W.cell? a=some (.pointer (some p))):
 (ReflectliteValue.method (ReflectliteValue.valueError "reflectlite.Value.Elem" 0) ReflectliteValue.elem #[.agg #[hnd 197,.pointer (some a),.int .u64 150]]).run Tryz.prog W
  =.ok (.agg #[hnd 195,.pointer (some p),.int .u64 409]) W:=by
 rw[yav];simp only[Sem.run_bind,zt8,Result.andThen];simp[ReflectliteValue.elem,loadVar,isAgg,underlying,Tryz.underlying197,ha,Result.andThen,z5h,ylj]
theorem yex(v x:Value):ReflectliteValue.set #[v,x]=(do
 let (some (dst,a,fl),some (src,b,_)):=(<-ReflectliteValue.parts v,<-ReflectliteValue.parts x)
  |unsupported (.noEntry "extern/(internal/reflectlite.Value).Set.zeroValue")
 if fl/ReflectliteValue.flagAddr % 2==0 then unsupported (.noEntry "extern/(internal/reflectlite.Value).Set.unaddressable")
 let val <-loadVar src b
 if <-Rtype.directlyAssignable dst src then storeVar dst a val
 else if <-Rtype.implements dst src then
  if (<-Rtype.kind src)==20 then
   match val with
   | .nilIface=>unsupported (.noEntry "extern/reflectlite: a nil value of one interface type handed on as a value of another")
   |_=>storeVar dst a val
  else storeVar dst a (.iface src val)
 else panicString ("reflectlite.Set: value of type " ++(<-Rtype.spelt src)++ " is not assignable to type " ++(<-Rtype.spelt dst))
 pure (.tuple #[])):=rfl
theorem z1f(a:Addr)(w:World):(ReflectliteValue.parts (.agg #[hnd 195,.pointer (some a),.int .u64 409])).run Tryz.prog w=.ok (some (195,a,409)) w:=by kernel_rfl
theorem z5i(a:Addr)(w:World):(ReflectliteValue.parts (.agg #[hnd 195,.pointer (some a),.int .u64 153])).run Tryz.prog w=.ok (some (195,a,153)) w:=by kernel_rfl
theorem z5j(w:World):(Rtype.directlyAssignable 195 195).run Tryz.prog w=.ok true w:=by kernel_rfl
theorem yey(t b:Nat)(c:Int)(old:Value)(W:World)(hb:W.cell? ⟨b,0,none⟩=some (.int .i64 c))(ht:W.cell? ⟨t,0,none⟩=some old)(hf:W.frozen? ⟨t,0,none⟩=false):
 (ReflectliteValue.set #[.agg #[hnd 195,.pointer (some ⟨t,0,none⟩),.int .u64 409],.agg #[hnd 195,.pointer (some ⟨b,0,none⟩),.int .u64 153]]).run Tryz.prog W
  =.ok (.tuple #[]) (W.setCell ⟨t,0,none⟩ (.int .i64 c)):=by
 rw[yex];simp only[Sem.run_bind,z1f,z5i,Result.andThen];simp[ReflectliteValue.flagAddr,loadVar,isAgg,underlying,Tryz.underlying195,hb,Result.andThen,z5j,storeVar,Value.cells,storeCells,Addr.add]
 have hl:=run_loadCells_list (P:=Tryz.prog) (w:=W) ⟨b,0,none⟩ [.int .i64 c] (λj v hj=>by
  cases j with
  |zero=>simp at hj;subst hj;exact hb
  |succ j=>simp at hj)
 simp only[List.length_singleton]at hl;rw[hl];simp[storeCells,Addr.add];rw[run_store Tryz.prog W ⟨t,0,none⟩ _ _ (by rfl)]
 simp[ht,hf]
end Go.Qz
namespace Go.Qz
open Go.Proofs Go.RowKit Go.Extern.Stop Go.Stop Go.Extern
set_option maxHeartbeats 4000000 in
theorem yez(c:Int)(t:Nat)(old:Value)(w:World)(hg:w.cell? ⟨0,0,none⟩=some (.iface 246 (.agg #[hnd 88])))(ht0:w.cell? ⟨t,0,none⟩=some old)(hf0:w.frozen? ⟨t,0,none⟩=false):
 Calls Tryz.prog 182 #[.iface 195 (.agg #[.int .i64 c]),.iface 197 (.pointer (some ⟨t,0,none⟩))] w λev w' =>ev=.returned (.bool true)/\w' =((((w.alloc (.cells #[.pointer (some ⟨t,0,none⟩)] 197)).alloc (.cells #[hnd 197,.pointer (some ⟨w.heap.size,0,none⟩),.int .u64 150] 220)).alloc (.cells #[hnd 197,.pointer (some ⟨w.heap.size,0,none⟩),.int .u64 150] 220)).alloc (.cells #[.int .i64 c] 195)).setCell ⟨t,0,none⟩ (.int .i64 c):=by
 have h6:=@run_callFunc_extern Tryz.prog 201 _ (λargs=>ReflectliteValue.unpack (args.getD 0 (.tuple #[]))) Tryz.func201 (by kernel_rfl) (by kernel_rfl) (by kernel_rfl) (by kernel_rfl)
 have h7:=@run_callFunc_extern Tryz.prog 202 _ (ReflectliteValue.methodAny (ReflectliteValue.valueError "reflectlite.Value.Type" 0) (λt _ _ _=>ReflectliteType.toType t)) Tryz.func202 (by kernel_rfl) (by kernel_rfl) (by kernel_rfl) (by kernel_rfl)
 have h8:=@run_callFunc_extern Tryz.prog 203 _ (ReflectliteValue.method (ReflectliteValue.valueError "reflectlite.Value.IsNil" 0) ReflectliteValue.isNil) Tryz.func203 (by kernel_rfl) (by kernel_rfl) (by kernel_rfl) (by kernel_rfl)
 have h27:=@run_callFunc_extern Tryz.prog 240 _ (ReflectliteType.abiMethod λt=>do pure (.int .u8 (<-Rtype.kind t))) Tryz.func240 (by kernel_rfl) (by kernel_rfl) (by kernel_rfl) (by kernel_rfl)
 have h37:=@run_callFunc_extern Tryz.prog 252 _ (ReflectliteType.method ReflectliteType.elem) Tryz.func252 (by kernel_rfl) (by kernel_rfl) (by kernel_rfl) (by kernel_rfl)
 have h38:=@run_callFunc_extern Tryz.prog 253 _ (ReflectliteType.relation "Implements" ReflectliteType.implements_) Tryz.func253 (by kernel_rfl) (by kernel_rfl) (by kernel_rfl) (by kernel_rfl)
 have h10:=@run_callFunc_extern Tryz.prog 218 _ ReflectliteType.typeOf Tryz.func218 (by kernel_rfl) (by kernel_rfl) (by kernel_rfl) (by kernel_rfl)
 have h35:=@run_callFunc_extern Tryz.prog 250 _ (ReflectliteType.relation "AssignableTo" ReflectliteType.assignableTo) Tryz.func250 (by kernel_rfl) (by kernel_rfl) (by kernel_rfl) (by kernel_rfl)
 have h11:=@run_callFunc_extern Tryz.prog 219 _ (ReflectliteValue.method (ReflectliteValue.valueError "reflectlite.Value.Elem" 0) ReflectliteValue.elem) Tryz.func219 (by kernel_rfl) (by kernel_rfl) (by kernel_rfl) (by kernel_rfl)
 have h12:=@run_callFunc_extern Tryz.prog 220 _ ReflectliteValue.set Tryz.func220 (by kernel_rfl) (by kernel_rfl) (by kernel_rfl) (by kernel_rfl)
 have tO:=z5g;have mA:=zh9;have a25:=zrk;have v25:=zxj;have f6:=zxi;have f7:=z8r;have mK:=zrh;have mE:=zri;have mI:=zjy;have k27:=z8s;have k25:=z8t;have e27:=z8v;have i25:=zrj;have n8:=z8u ⟨w.heap.size,0,none⟩ ⟨t,0,none⟩ ((w.alloc (.cells #[.pointer (some ⟨t,0,none⟩)] 197)).alloc (.cells #[hnd 197,.pointer (some ⟨w.heap.size,0,none⟩),.int .u64 150] 220)) (by simp)
 have hlt:0<w.heap.size:=by
  rcases Nat.eq_zero_or_pos w.heap.size with h0|h
  ·simp[World.cell?,h0]at hg
  ·exact h
 have hg2:((w.alloc (.cells #[.pointer (some ⟨t,0,none⟩)] 197)).alloc (.cells #[hnd 197,.pointer (some ⟨w.heap.size,0,none⟩),.int .u64 150] 220)).cell? ⟨0,0,none⟩=some (.iface 246 (.agg #[hnd 88])):=by
  rw[World.cell?_alloc_lt _ _ ⟨0,0,none⟩ (by simp),World.cell?_alloc_lt _ _ ⟨0,0,none⟩ hlt];exact hg
 have htl:t<w.heap.size:=by
  rcases Nat.lt_or_ge t w.heap.size with h|h
  ·exact h
  ·simp[World.cell?,Array.getElem?_eq_none h]at ht0
 have el:=z8w ⟨w.heap.size,0,none⟩ ⟨t,0,none⟩ (((w.alloc (.cells #[.pointer (some ⟨t,0,none⟩)] 197)).alloc (.cells #[hnd 197,.pointer (some ⟨w.heap.size,0,none⟩),.int .u64 150] 220)).alloc (.cells #[hnd 197,.pointer (some ⟨w.heap.size,0,none⟩),.int .u64 150] 220)) (by rw[World.cell?_alloc_lt _ _ ⟨w.heap.size,0,none⟩ (by simp;omega)];simp)
 have st:=yey t (w.heap.size+1+1+1) c old ((((w.alloc (.cells #[.pointer (some ⟨t,0,none⟩)] 197)).alloc (.cells #[hnd 197,.pointer (some ⟨w.heap.size,0,none⟩),.int .u64 150] 220)).alloc (.cells #[hnd 197,.pointer (some ⟨w.heap.size,0,none⟩),.int .u64 150] 220)).alloc (.cells #[.int .i64 c] 195))
  (by rw[World.cell?_alloc_at _ _ _ _ (by simp)];rfl)
  (by rw[World.cell?_alloc_lt _ _ ⟨t,0,none⟩ (by simp;omega),World.cell?_alloc_lt _ _ ⟨t,0,none⟩ (by simp;omega),World.cell?_alloc_lt _ _ ⟨t,0,none⟩ (by simp;omega),World.cell?_alloc_lt _ _ ⟨t,0,none⟩ htl];exact ht0)
  (by rw[World.frozen?_alloc_old _ _ ⟨t,0,none⟩ (by simp;omega),World.frozen?_alloc_old _ _ ⟨t,0,none⟩ (by simp;omega),World.frozen?_alloc_old _ _ ⟨t,0,none⟩ (by simp;omega),World.frozen?_alloc_old _ _ ⟨t,0,none⟩ (Nat.ne_of_lt htl)];exact hf0)
 go_enter Tryz.func182,Tryz.ntmps182
 go_wp2
 refine wp_loop_rounds 1 ?_;rw[rounds_succ]
 go_wp2
 go_ret
 exact⟨rfl,rfl⟩
theorem z1g(w:World):Calls Tryz.prog 156 #[.nilIface] w λe w' =>e=.returned (.int .i64 0)/\w' =w.alloc (.cells #[.int .i64 0] 195):=by
 go_enter Tryz.func156,Tryz.ntmps156
 go_wp2_with (first|(go_at_call 182;refine(yew _ _).mono ?_;rintro e w' ⟨rfl,rfl⟩))
 go_ret
 exact⟨rfl,rfl⟩
set_option maxHeartbeats 4000000 in
theorem z1h(c:Int)(w:World)(hg:w.cell? ⟨0,0,none⟩=some (.iface 246 (.agg #[hnd 88]))):Calls Tryz.prog 156 #[.iface 195 (.agg #[.int .i64 c])] w λe w' =>e=.returned (.int .i64 c)/\
 Below w.heap.size w w':=by
 have hlt:0<w.heap.size:=by
  rcases Nat.eq_zero_or_pos w.heap.size with h0|h
  ·simp[World.cell?,h0]at hg
  ·exact h
 have hgA:(w.alloc (.cells #[.int .i64 0] 195)).cell? ⟨0,0,none⟩=some (.iface 246 (.agg #[hnd 88])):=by
  rw[World.cell?_alloc_lt _ _ ⟨0,0,none⟩ hlt];exact hg
 have htA:(w.alloc (.cells #[.int .i64 0] 195)).cell? ⟨w.heap.size,0,none⟩=some (.int .i64 0):=by simp
 have hfA:(w.alloc (.cells #[.int .i64 0] 195)).frozen? ⟨w.heap.size,0,none⟩=false:=by simp
 go_enter Tryz.func156,Tryz.ntmps156
 go_wp2_with (first|(go_at_call 182;refine(yez c w.heap.size (.int .i64 0) _ hgA htA hfA).mono ?_;rintro e w' ⟨rfl,rfl⟩))
 go_ret
 exact⟨rfl,((((((Below.refl _ _).alloc (by simp) _).alloc (by simp;try omega) _).alloc (by simp;try omega) _).alloc (by simp;try omega) _).alloc (by simp;try omega) _)⟩
end Go.Qz
