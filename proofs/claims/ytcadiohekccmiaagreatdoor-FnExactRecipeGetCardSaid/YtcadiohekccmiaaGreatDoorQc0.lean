import Derived.Test.YtcadiohekccmiaaGreatDoorQb3
namespace Go.Qz
@[simp] theorem yfd(e:Env)(t t':Nat)(v:V):(e.set0 t v).get t' =if t' =t then v else e.get t':=(rfl)
@[simp] theorem yfe(e:Env)(f:A->A)(t:Nat):(e.mapA f).get t=(e.get t).mapA f:=(rfl)
@[simp] theorem ycy(e:Env)(b t:Nat)(cs:List A):(e.setBox b cs).get t=e.get t:=(rfl)
@[simp] theorem yff(e:Env)(t b:Nat)(v:V):(e.set0 t v).box b=e.box b:=(rfl)
@[simp] theorem yfg(e:Env)(f:A->A)(b:Nat):(e.mapA f).box b=e.box b:=(rfl)
@[simp] theorem ycz(e:Env)(b b':Nat)(cs:List A):(e.setBox b cs).box b' =if b' =b then some cs else e.box b':=(rfl)
@[simp] theorem ydf(e:Env)(t:Nat)(v:V):(e.set0 t v).size=e.size:=(rfl)
@[simp] theorem ydg(e:Env)(f:A->A):(e.mapA f).size=e.size:=(rfl)
@[simp] theorem ya7(e:Env)(b:Nat)(cs:List A):(e.setBox b cs).size=e.size:=(rfl)
@[simp] theorem ydh(n:Nat)(args:List A)(bx:zar)(t:Nat):(zaj n args bx).get t=match args[t]? with|some a=>.one a|none=>.undef:=(rfl)
@[simp] theorem ydi(n:Nat)(args:List A)(bx:zar)(b:Nat):(zaj n args bx).box b=zbe b bx:=(rfl)
@[simp] theorem yc0(n:Nat)(args:List A)(bx:zar):(zaj n args bx).size=n:=(rfl)
@[simp] theorem yfh(e:Env)(t:Nat):e.root (.tmp t)=match e.get t with| .one a=>a|_=>.dead:=(rfl)
@[simp] theorem ydj(e:Env)(b o:Nat):e.root (.cell b o)=match e.box b with|some cs=>cs.getD o .dead|none=>.dead:=(rfl)
section
variable(P:Program)(io:FuncId->List Nat)(call:zal)(lp:zj4)
end
attribute [simp] Env.set Env.ownAt Env.setRoot Env.setLoc Env.vacate Env.freeze Env.newBox A.drop A.turn A.thaw A.killBox A.killIn V.mapA V.dead V.undef A.data datas V.data A.isOwn
 D.sub D.repl D.cellAt D.setAt D.cells D.withCells D.flat flats Root.inBox Cap.refsBox zbe zdr zaf
 zhc rd zfx zhm take A.inner zhd V.inner V.cellsA A.inCell Operand.isConst zif evEq A.live A.move zj1 A.atRoot zat ya2 ya3 zzy z7i z7k z2g zz1 isSl z7j evUn zyb zpf look zqn zzz zpg zhe zhf zmy zmz zvp
 zcz lend1 lend zau Lent.apart za5 zei zm1 zph zbz zbs zd5 D.isAgg A.flat V.flatRet zbd za9 zcq A.portable zm0 zcj zi2 zi7 zox zck zf1 z2i zgp zho A.isRo zqp zm2 zm3 zch zdf zfo zig zvr zj2 zer V.leavesV zk2 ze1 Lent.okId Lent.isRead zcr zk4 zcs zsa zqo zsb zhn zbo zii ya5 zvs Env.dropBox rdO zbw zas zm4 z7l zem zqq zmp ya4 V.isBs A.isBs A.isNilp zr9 zmx zye z2h zih evOp zk5 ydd
 fnA zz0 zk3 zvq
 ros z2j zm6 zgq ze2 A.leaves zpj
end Go.Qz
