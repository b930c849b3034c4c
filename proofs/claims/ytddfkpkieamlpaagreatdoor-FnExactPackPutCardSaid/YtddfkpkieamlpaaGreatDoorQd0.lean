import Derived.Test.YtddfkpkieamlpaaGreatDoorQc3
namespace Go.Qz
@[simp] theorem z8o(e:Env)(t t':Nat)(v:V):(e.set0 t v).get t' =if t' =t then v else e.get t':=(rfl)
@[simp] theorem z8p(e:Env)(f:A->A)(t:Nat):(e.mapA f).get t=(e.get t).mapA f:=(rfl)
@[simp] theorem z6s(e:Env)(b t:Nat)(cs:List A):(e.setBox b cs).get t=e.get t:=(rfl)
@[simp] theorem z8q(e:Env)(t b:Nat)(v:V):(e.set0 t v).box b=e.box b:=(rfl)
@[simp] theorem z8r(e:Env)(f:A->A)(b:Nat):(e.mapA f).box b=e.box b:=(rfl)
@[simp] theorem z6t(e:Env)(b b':Nat)(cs:List A):(e.setBox b cs).box b' =if b' =b then some cs else e.box b':=(rfl)
@[simp] theorem z66(e:Env)(t:Nat)(v:V):(e.set0 t v).size=e.size:=(rfl)
@[simp] theorem z67(e:Env)(f:A->A):(e.mapA f).size=e.size:=(rfl)
@[simp] theorem z5g(e:Env)(b:Nat)(cs:List A):(e.setBox b cs).size=e.size:=(rfl)
@[simp] theorem z68(n:Nat)(args:List A)(bx:zas)(t:Nat):(zak n args bx).get t=match args[t]? with|some a=>.one a|none=>.undef:=(rfl)
@[simp] theorem z69(n:Nat)(args:List A)(bx:zas)(b:Nat):(zak n args bx).box b=za5 b bx:=(rfl)
@[simp] theorem z6u(n:Nat)(args:List A)(bx:zas):(zak n args bx).size=n:=(rfl)
@[simp] theorem z8s(e:Env)(t:Nat):e.root (.tmp t)=match e.get t with| .one a=>a|_=>.dead:=(rfl)
@[simp] theorem z7a(e:Env)(b o:Nat):e.root (.cell b o)=match e.box b with|some cs=>cs.getD o .dead|none=>.dead:=(rfl)
section
variable(P:Program)(io:FuncId->List Nat)(call:zai)(lp:zio)
end
attribute [simp] Env.set Env.ownAt Env.setRoot Env.setLoc Env.vacate Env.freeze Env.newBox A.drop A.turn A.thaw A.killBox A.killIn V.mapA V.dead V.undef A.data datas V.data A.isOwn
 D.sub D.repl D.cellAt D.setAt D.cells D.withCells D.flat flats Root.inBox Cap.refsBox za5 zc5 zab
 zf4 rd zez zga take A.inner zf5 V.inner V.cellsA A.inCell Operand.isConst zg1 evEq A.live A.move zik A.atRoot zaq z5c z5d zv2 z2n z2p zyq zv6 isSl z2o evUn zut zj5 look zon zv3 znf zf6 zf7 zk2 zk3 zsm
 zcp lend1 lend zar Lent.apart zax zdq zk5 zng zbl zbd zdf D.isAgg A.flat V.flatRet za4 za0 zcd A.portable zk4 zb6 zhn zhp zm2 zb7 ze4 zyu zfo zgc A.isRo zop zk6 zk7 zb2 zcz zeo zg2 zso zil zdz V.leavesV zjf zd8 Lent.okId Lent.isRead zce zjh zcf zpr zoo zps zgb zbb zg5 z5e zsp Env.dropBox rdO zbe zap zk8 z2q zdu zk9 zg3 zpv zku z2r V.isBs A.isBs A.isNilp zuw zne zux zyt zg4 evOp zji z63
 fnA zv4 zjg zsn
 ros zyv zlb zfp zd9 A.leaves zni
end Go.Qz
