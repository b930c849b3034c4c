import Derived.Test.YtcadiohekccmiaaGreatDoorQr0
namespace Go.Qz
open Go.Proofs
def oA(a b c:Nat):QOp:=⟨some a,.move (.tmp b),c,none⟩
@[simp] theorem yv2(a b c:Nat):(oA a b c).dst=some a:=(rfl)
@[simp] theorem oAop(a b c:Nat):(oA a b c).op=.move (.tmp b):=(rfl)
@[simp] theorem oAty(a b c:Nat):(oA a b c).ty=c:=(rfl)
@[simp] theorem oAg(a b c:Nat):(oA a b c).g=none:=(rfl)
def oB(a b c:Nat):QOp:=⟨some a,.assign (.tmp b),c,none⟩
@[simp] theorem yv3(a b c:Nat):(oB a b c).dst=some a:=(rfl)
@[simp] theorem oBop(a b c:Nat):(oB a b c).op=.assign (.tmp b):=(rfl)
@[simp] theorem oBty(a b c:Nat):(oB a b c).ty=c:=(rfl)
@[simp] theorem oBg(a b c:Nat):(oB a b c).g=none:=(rfl)
def oC(a b c d:Nat):QOp:=⟨some a,.load b (.tmp c),d,none⟩
@[simp] theorem yv4(a b c d:Nat):(oC a b c d).dst=some a:=(rfl)
@[simp] theorem oCop(a b c d:Nat):(oC a b c d).op=.load b (.tmp c):=(rfl)
@[simp] theorem oCty(a b c d:Nat):(oC a b c d).ty=d:=(rfl)
@[simp] theorem oCg(a b c d:Nat):(oC a b c d).g=none:=(rfl)
def oD(a b c d e:Nat):QOp:=⟨some a,.fieldAddr b (.tmp c) d,e,none⟩
@[simp] theorem yv5(a b c d e:Nat):(oD a b c d e).dst=some a:=(rfl)
@[simp] theorem oDop(a b c d e:Nat):(oD a b c d e).op=.fieldAddr b (.tmp c) d:=(rfl)
@[simp] theorem oDty(a b c d e:Nat):(oD a b c d e).ty=e:=(rfl)
@[simp] theorem oDg(a b c d e:Nat):(oD a b c d e).g=none:=(rfl)
def oE(a b:Nat):QOp:=⟨some a,.assign (.const (.bool false)),b,none⟩
@[simp] theorem yv6(a b:Nat):(oE a b).dst=some a:=(rfl)
@[simp] theorem oEop(a b:Nat):(oE a b).op=.assign (.const (.bool false)):=(rfl)
@[simp] theorem oEty(a b:Nat):(oE a b).ty=b:=(rfl)
@[simp] theorem oEg(a b:Nat):(oE a b).g=none:=(rfl)
def oF(a b c d:Nat):QOp:=⟨some a,.call {callee:=.builtin .len,args:=#[.tmp b],argTypes:=#[c]},d,none⟩
@[simp] theorem yv7(a b c d:Nat):(oF a b c d).dst=some a:=(rfl)
@[simp] theorem oFop(a b c d:Nat):(oF a b c d).op=.call {callee:=.builtin .len,args:=#[.tmp b],argTypes:=#[c]}:=(rfl)
@[simp] theorem oFty(a b c d:Nat):(oF a b c d).ty=d:=(rfl)
@[simp] theorem oFg(a b c d:Nat):(oF a b c d).g=none:=(rfl)
def oG(a b c d:Nat):QOp:=⟨none,.store a (.tmp b) (.tmp c),d,none⟩
@[simp] theorem yv8(a b c d:Nat):(oG a b c d).dst=none:=(rfl)
@[simp] theorem oGop(a b c d:Nat):(oG a b c d).op=.store a (.tmp b) (.tmp c):=(rfl)
@[simp] theorem oGty(a b c d:Nat):(oG a b c d).ty=d:=(rfl)
@[simp] theorem oGg(a b c d:Nat):(oG a b c d).g=none:=(rfl)
def oH(a:Nat)(b:Int)(c:Nat):QOp:=⟨some a,.assign (.const (.int .i64 b)),c,none⟩
@[simp] theorem yv9(a:Nat)(b:Int)(c:Nat):(oH a b c).dst=some a:=(rfl)
@[simp] theorem oHop(a:Nat)(b:Int)(c:Nat):(oH a b c).op=.assign (.const (.int .i64 b)):=(rfl)
@[simp] theorem oHty(a:Nat)(b:Int)(c:Nat):(oH a b c).ty=c:=(rfl)
@[simp] theorem oHg(a:Nat)(b:Int)(c:Nat):(oH a b c).g=none:=(rfl)
def oI(a b c d e:Nat):QOp:=⟨some a,.call {callee:=.value (.func b),args:=#[.tmp c],argTypes:=#[d]},e,none⟩
@[simp] theorem ywa(a b c d e:Nat):(oI a b c d e).dst=some a:=(rfl)
@[simp] theorem oIop(a b c d e:Nat):(oI a b c d e).op=.call {callee:=.value (.func b),args:=#[.tmp c],argTypes:=#[d]}:=(rfl)
@[simp] theorem oIty(a b c d e:Nat):(oI a b c d e).ty=e:=(rfl)
@[simp] theorem oIg(a b c d e:Nat):(oI a b c d e).g=none:=(rfl)
def oJ(a:Nat)(b:Nat)(c:Nat)(d:Int)(e:Nat)(f:Nat):QOp:=⟨some a,.binOp .add b (.tmp c) (.const (.int .i64 d)) e,f,none⟩
@[simp] theorem ywb(a:Nat)(b:Nat)(c:Nat)(d:Int)(e:Nat)(f:Nat):(oJ a b c d e f).dst=some a:=(rfl)
@[simp] theorem oJop(a:Nat)(b:Nat)(c:Nat)(d:Int)(e:Nat)(f:Nat):(oJ a b c d e f).op=.binOp .add b (.tmp c) (.const (.int .i64 d)) e:=(rfl)
@[simp] theorem oJty(a:Nat)(b:Nat)(c:Nat)(d:Int)(e:Nat)(f:Nat):(oJ a b c d e f).ty=f:=(rfl)
@[simp] theorem oJg(a:Nat)(b:Nat)(c:Nat)(d:Int)(e:Nat)(f:Nat):(oJ a b c d e f).g=none:=(rfl)
def oK(a b c d:Nat):QOp:=⟨some a,.move (.tmp b),c,some (d,false)⟩
@[simp] theorem ywc(a b c d:Nat):(oK a b c d).dst=some a:=(rfl)
@[simp] theorem oKop(a b c d:Nat):(oK a b c d).op=.move (.tmp b):=(rfl)
@[simp] theorem oKty(a b c d:Nat):(oK a b c d).ty=c:=(rfl)
@[simp] theorem oKg(a b c d:Nat):(oK a b c d).g=some (d,false):=(rfl)
def oL(a b c d e f:Nat):QOp:=⟨some a,.binOp .lss b (.tmp c) (.tmp d) e,f,none⟩
@[simp] theorem ywd(a b c d e f:Nat):(oL a b c d e f).dst=some a:=(rfl)
@[simp] theorem oLop(a b c d e f:Nat):(oL a b c d e f).op=.binOp .lss b (.tmp c) (.tmp d) e:=(rfl)
@[simp] theorem oLty(a b c d e f:Nat):(oL a b c d e f).ty=f:=(rfl)
@[simp] theorem oLg(a b c d e f:Nat):(oL a b c d e f).g=none:=(rfl)
def oM(a b c d:Nat):QOp:=⟨some a,.extract (.tmp b) c,d,none⟩
@[simp] theorem ywe(a b c d:Nat):(oM a b c d).dst=some a:=(rfl)
@[simp] theorem oMop(a b c d:Nat):(oM a b c d).op=.extract (.tmp b) c:=(rfl)
@[simp] theorem oMty(a b c d:Nat):(oM a b c d).ty=d:=(rfl)
@[simp] theorem oMg(a b c d:Nat):(oM a b c d).g=none:=(rfl)
def oN(a b:Nat):QOp:=⟨some a,.assign (.const (.string {data:=#[]})),b,none⟩
@[simp] theorem ywf(a b:Nat):(oN a b).dst=some a:=(rfl)
@[simp] theorem oNop(a b:Nat):(oN a b).op=.assign (.const (.string {data:=#[]})):=(rfl)
@[simp] theorem oNty(a b:Nat):(oN a b).ty=b:=(rfl)
@[simp] theorem oNg(a b:Nat):(oN a b).g=none:=(rfl)
def oO(a b c d:Nat):QOp:=⟨some a,.move (.tmp b),c,some (d,true)⟩
@[simp] theorem ywg(a b c d:Nat):(oO a b c d).dst=some a:=(rfl)
@[simp] theorem oOop(a b c d:Nat):(oO a b c d).op=.move (.tmp b):=(rfl)
@[simp] theorem oOty(a b c d:Nat):(oO a b c d).ty=c:=(rfl)
@[simp] theorem oOg(a b c d:Nat):(oO a b c d).g=some (d,true):=(rfl)
def oP(a b c:Nat):QOp:=⟨some a,.alloc b,c,none⟩
@[simp] theorem ywh(a b c:Nat):(oP a b c).dst=some a:=(rfl)
@[simp] theorem oPop(a b c:Nat):(oP a b c).op=.alloc b:=(rfl)
@[simp] theorem oPty(a b c:Nat):(oP a b c).ty=c:=(rfl)
@[simp] theorem oPg(a b c:Nat):(oP a b c).g=none:=(rfl)
def oQ(a b c d:Nat):QOp:=⟨some a,.pick (.tmp b) (.const (.bool true)) (.tmp c),d,none⟩
@[simp] theorem ywi(a b c d:Nat):(oQ a b c d).dst=some a:=(rfl)
@[simp] theorem oQop(a b c d:Nat):(oQ a b c d).op=.pick (.tmp b) (.const (.bool true)) (.tmp c):=(rfl)
@[simp] theorem oQty(a b c d:Nat):(oQ a b c d).ty=d:=(rfl)
@[simp] theorem oQg(a b c d:Nat):(oQ a b c d).g=none:=(rfl)
def oR(a b c d:Nat):QOp:=⟨some a,.pick (.tmp b) (.tmp c) (.const (.bool false)),d,none⟩
@[simp] theorem ywj(a b c d:Nat):(oR a b c d).dst=some a:=(rfl)
@[simp] theorem oRop(a b c d:Nat):(oR a b c d).op=.pick (.tmp b) (.tmp c) (.const (.bool false)):=(rfl)
@[simp] theorem oRty(a b c d:Nat):(oR a b c d).ty=d:=(rfl)
@[simp] theorem oRg(a b c d:Nat):(oR a b c d).g=none:=(rfl)
def oS(a b c d e:Nat):QOp:=⟨some a,.indexAddr b (.tmp c) (.tmp d),e,none⟩
@[simp] theorem ywk(a b c d e:Nat):(oS a b c d e).dst=some a:=(rfl)
@[simp] theorem oSop(a b c d e:Nat):(oS a b c d e).op=.indexAddr b (.tmp c) (.tmp d):=(rfl)
@[simp] theorem oSty(a b c d e:Nat):(oS a b c d e).ty=e:=(rfl)
@[simp] theorem oSg(a b c d e:Nat):(oS a b c d e).g=none:=(rfl)
def oT(a b c d e f g:Nat):QOp:=⟨some a,.call {callee:=.value (.func b),args:=#[.tmp c,.tmp d],argTypes:=#[e,f]},g,none⟩
@[simp] theorem ywl(a b c d e f g:Nat):(oT a b c d e f g).dst=some a:=(rfl)
@[simp] theorem oTop(a b c d e f g:Nat):(oT a b c d e f g).op=.call {callee:=.value (.func b),args:=#[.tmp c,.tmp d],argTypes:=#[e,f]}:=(rfl)
@[simp] theorem oTty(a b c d e f g:Nat):(oT a b c d e f g).ty=g:=(rfl)
@[simp] theorem oTg(a b c d e f g:Nat):(oT a b c d e f g).g=none:=(rfl)
def oU(a b c d:Nat):QOp:=⟨some a,.unOp .not b (.tmp c),d,none⟩
@[simp] theorem ywm(a b c d:Nat):(oU a b c d).dst=some a:=(rfl)
@[simp] theorem oUop(a b c d:Nat):(oU a b c d).op=.unOp .not b (.tmp c):=(rfl)
@[simp] theorem oUty(a b c d:Nat):(oU a b c d).ty=d:=(rfl)
@[simp] theorem oUg(a b c d:Nat):(oU a b c d).g=none:=(rfl)
def oV(a b c d e f:Nat):QOp:=⟨some a,.call {callee:=.builtin .append,args:=#[.tmp b,.tmp c],argTypes:=#[d,e]},f,none⟩
@[simp] theorem ywn(a b c d e f:Nat):(oV a b c d e f).dst=some a:=(rfl)
@[simp] theorem oVop(a b c d e f:Nat):(oV a b c d e f).op=.call {callee:=.builtin .append,args:=#[.tmp b,.tmp c],argTypes:=#[d,e]}:=(rfl)
@[simp] theorem oVty(a b c d e f:Nat):(oV a b c d e f).ty=f:=(rfl)
@[simp] theorem oVg(a b c d e f:Nat):(oV a b c d e f).g=none:=(rfl)
def oW(a:Nat)(b:Nat)(c:Nat)(d:Int)(e:Nat)(f:Nat):QOp:=⟨some a,.binOp .eql b (.tmp c) (.const (.int .i64 d)) e,f,none⟩
@[simp] theorem ywo(a:Nat)(b:Nat)(c:Nat)(d:Int)(e:Nat)(f:Nat):(oW a b c d e f).dst=some a:=(rfl)
@[simp] theorem oWop(a:Nat)(b:Nat)(c:Nat)(d:Int)(e:Nat)(f:Nat):(oW a b c d e f).op=.binOp .eql b (.tmp c) (.const (.int .i64 d)) e:=(rfl)
@[simp] theorem oWty(a:Nat)(b:Nat)(c:Nat)(d:Int)(e:Nat)(f:Nat):(oW a b c d e f).ty=f:=(rfl)
@[simp] theorem oWg(a:Nat)(b:Nat)(c:Nat)(d:Int)(e:Nat)(f:Nat):(oW a b c d e f).g=none:=(rfl)
def oX(a b c d e:Nat):QOp:=⟨some a,.load b (.tmp c),d,some (e,false)⟩
@[simp] theorem ywp(a b c d e:Nat):(oX a b c d e).dst=some a:=(rfl)
@[simp] theorem oXop(a b c d e:Nat):(oX a b c d e).op=.load b (.tmp c):=(rfl)
@[simp] theorem oXty(a b c d e:Nat):(oX a b c d e).ty=d:=(rfl)
@[simp] theorem oXg(a b c d e:Nat):(oX a b c d e).g=some (e,false):=(rfl)
def oY(a b c d e f:Nat):QOp:=⟨some a,.buildSlice b c #[(d,.tmp e)],f,none⟩
@[simp] theorem ywq(a b c d e f:Nat):(oY a b c d e f).dst=some a:=(rfl)
@[simp] theorem oYop(a b c d e f:Nat):(oY a b c d e f).op=.buildSlice b c #[(d,.tmp e)]:=(rfl)
@[simp] theorem oYty(a b c d e f:Nat):(oY a b c d e f).ty=f:=(rfl)
@[simp] theorem oYg(a b c d e f:Nat):(oY a b c d e f).g=none:=(rfl)
def oZ(a b c d:Nat):QOp:=⟨some a,.box b (.tmp c),d,none⟩
@[simp] theorem ywr(a b c d:Nat):(oZ a b c d).dst=some a:=(rfl)
@[simp] theorem oZop(a b c d:Nat):(oZ a b c d).op=.box b (.tmp c):=(rfl)
@[simp] theorem oZty(a b c d:Nat):(oZ a b c d).ty=d:=(rfl)
@[simp] theorem oZg(a b c d:Nat):(oZ a b c d).g=none:=(rfl)
def oAA(a b c d e f:Nat):QOp:=⟨some a,.fieldAddr b (.tmp c) d,e,some (f,false)⟩
@[simp] theorem yqs(a b c d e f:Nat):(oAA a b c d e f).dst=some a:=(rfl)
@[simp] theorem yws(a b c d e f:Nat):(oAA a b c d e f).op=.fieldAddr b (.tmp c) d:=(rfl)
@[simp] theorem ywt(a b c d e f:Nat):(oAA a b c d e f).ty=e:=(rfl)
@[simp] theorem oAAg(a b c d e f:Nat):(oAA a b c d e f).g=some (f,false):=(rfl)
def oAB(a b:Nat):QOp:=⟨some a,.assign (.const (.bool true)),b,none⟩
@[simp] theorem yqt(a b:Nat):(oAB a b).dst=some a:=(rfl)
@[simp] theorem ywu(a b:Nat):(oAB a b).op=.assign (.const (.bool true)):=(rfl)
@[simp] theorem ywv(a b:Nat):(oAB a b).ty=b:=(rfl)
@[simp] theorem oABg(a b:Nat):(oAB a b).g=none:=(rfl)
def oAC(a:Nat)(b:Int)(c:Nat):QOp:=⟨some a,.move (.const (.int .i64 b)),c,none⟩
@[simp] theorem yqu(a:Nat)(b:Int)(c:Nat):(oAC a b c).dst=some a:=(rfl)
@[simp] theorem yww(a:Nat)(b:Int)(c:Nat):(oAC a b c).op=.move (.const (.int .i64 b)):=(rfl)
@[simp] theorem ywx(a:Nat)(b:Int)(c:Nat):(oAC a b c).ty=c:=(rfl)
@[simp] theorem oACg(a:Nat)(b:Int)(c:Nat):(oAC a b c).g=none:=(rfl)
def oAD(a b c d e:Nat):QOp:=⟨some a,.load b (.tmp c),d,some (e,true)⟩
@[simp] theorem yqv(a b c d e:Nat):(oAD a b c d e).dst=some a:=(rfl)
@[simp] theorem ywy(a b c d e:Nat):(oAD a b c d e).op=.load b (.tmp c):=(rfl)
@[simp] theorem ywz(a b c d e:Nat):(oAD a b c d e).ty=d:=(rfl)
@[simp] theorem oADg(a b c d e:Nat):(oAD a b c d e).g=some (e,true):=(rfl)
def oAE(a b c d e:Nat):QOp:=⟨some a,.call {callee:=.value (.tmp b),args:=#[.tmp c],argTypes:=#[d]},e,none⟩
@[simp] theorem yqw(a b c d e:Nat):(oAE a b c d e).dst=some a:=(rfl)
@[simp] theorem yw0(a b c d e:Nat):(oAE a b c d e).op=.call {callee:=.value (.tmp b),args:=#[.tmp c],argTypes:=#[d]}:=(rfl)
@[simp] theorem yw1(a b c d e:Nat):(oAE a b c d e).ty=e:=(rfl)
@[simp] theorem oAEg(a b c d e:Nat):(oAE a b c d e).g=none:=(rfl)
def oAF(a b:Nat):QOp:=⟨some a,.assign (.const (.slice none 0 0)),b,none⟩
@[simp] theorem yqx(a b:Nat):(oAF a b).dst=some a:=(rfl)
@[simp] theorem yw2(a b:Nat):(oAF a b).op=.assign (.const (.slice none 0 0)):=(rfl)
@[simp] theorem yw3(a b:Nat):(oAF a b).ty=b:=(rfl)
@[simp] theorem oAFg(a b:Nat):(oAF a b).g=none:=(rfl)
def oAG(a:Nat)(b:Nat)(c:Nat)(d:Int)(e:Nat)(f:Nat)(g:Nat):QOp:=⟨some a,.call {callee:=.value (.func b),args:=#[.tmp c,.const (.int .i64 d)],argTypes:=#[e,f]},g,none⟩
@[simp] theorem yqy(a:Nat)(b:Nat)(c:Nat)(d:Int)(e:Nat)(f:Nat)(g:Nat):(oAG a b c d e f g).dst=some a:=(rfl)
@[simp] theorem yw4(a:Nat)(b:Nat)(c:Nat)(d:Int)(e:Nat)(f:Nat)(g:Nat):(oAG a b c d e f g).op=.call {callee:=.value (.func b),args:=#[.tmp c,.const (.int .i64 d)],argTypes:=#[e,f]}:=(rfl)
@[simp] theorem yw5(a:Nat)(b:Nat)(c:Nat)(d:Int)(e:Nat)(f:Nat)(g:Nat):(oAG a b c d e f g).ty=g:=(rfl)
@[simp] theorem oAGg(a:Nat)(b:Nat)(c:Nat)(d:Int)(e:Nat)(f:Nat)(g:Nat):(oAG a b c d e f g).g=none:=(rfl)
def oAH(a b c d e f:Nat):QOp:=⟨some a,.binOp .add b (.tmp c) (.tmp d) e,f,none⟩
@[simp] theorem yqz(a b c d e f:Nat):(oAH a b c d e f).dst=some a:=(rfl)
@[simp] theorem yw6(a b c d e f:Nat):(oAH a b c d e f).op=.binOp .add b (.tmp c) (.tmp d) e:=(rfl)
@[simp] theorem yw7(a b c d e f:Nat):(oAH a b c d e f).ty=f:=(rfl)
@[simp] theorem oAHg(a b c d e f:Nat):(oAH a b c d e f).g=none:=(rfl)
def oAI(a b c d e f:Nat):QOp:=⟨some a,.fieldAddr b (.tmp c) d,e,some (f,true)⟩
@[simp] theorem yq0(a b c d e f:Nat):(oAI a b c d e f).dst=some a:=(rfl)
@[simp] theorem yw8(a b c d e f:Nat):(oAI a b c d e f).op=.fieldAddr b (.tmp c) d:=(rfl)
@[simp] theorem yw9(a b c d e f:Nat):(oAI a b c d e f).ty=e:=(rfl)
@[simp] theorem oAIg(a b c d e f:Nat):(oAI a b c d e f).g=some (f,true):=(rfl)
def oAJ(a b c:Nat):QOp:=⟨some a,.nilCheck (.tmp b),c,none⟩
@[simp] theorem yq1(a b c:Nat):(oAJ a b c).dst=some a:=(rfl)
@[simp] theorem yxa(a b c:Nat):(oAJ a b c).op=.nilCheck (.tmp b):=(rfl)
@[simp] theorem yxb(a b c:Nat):(oAJ a b c).ty=c:=(rfl)
@[simp] theorem oAJg(a b c:Nat):(oAJ a b c).g=none:=(rfl)
def oAK(a b c d e:Nat):QOp:=⟨some a,.index b (.tmp c) (.tmp d),e,none⟩
@[simp] theorem yq2(a b c d e:Nat):(oAK a b c d e).dst=some a:=(rfl)
@[simp] theorem yxc(a b c d e:Nat):(oAK a b c d e).op=.index b (.tmp c) (.tmp d):=(rfl)
@[simp] theorem yxd(a b c d e:Nat):(oAK a b c d e).ty=e:=(rfl)
@[simp] theorem oAKg(a b c d e:Nat):(oAK a b c d e).g=none:=(rfl)
def oAL(a:Nat)(b:Nat)(c:Nat)(d:Int)(e:Nat)(f:Nat):QOp:=⟨some a,.binOp .gtr b (.tmp c) (.const (.int .i64 d)) e,f,none⟩
@[simp] theorem yq3(a:Nat)(b:Nat)(c:Nat)(d:Int)(e:Nat)(f:Nat):(oAL a b c d e f).dst=some a:=(rfl)
@[simp] theorem yxe(a:Nat)(b:Nat)(c:Nat)(d:Int)(e:Nat)(f:Nat):(oAL a b c d e f).op=.binOp .gtr b (.tmp c) (.const (.int .i64 d)) e:=(rfl)
@[simp] theorem yxf(a:Nat)(b:Nat)(c:Nat)(d:Int)(e:Nat)(f:Nat):(oAL a b c d e f).ty=f:=(rfl)
@[simp] theorem oALg(a:Nat)(b:Nat)(c:Nat)(d:Int)(e:Nat)(f:Nat):(oAL a b c d e f).g=none:=(rfl)
def oAM(a b c d e:Nat):QOp:=⟨some a,.call {callee:=.builtin .len,args:=#[.tmp b],argTypes:=#[c]},d,some (e,false)⟩
@[simp] theorem yq4(a b c d e:Nat):(oAM a b c d e).dst=some a:=(rfl)
@[simp] theorem yxg(a b c d e:Nat):(oAM a b c d e).op=.call {callee:=.builtin .len,args:=#[.tmp b],argTypes:=#[c]}:=(rfl)
@[simp] theorem yxh(a b c d e:Nat):(oAM a b c d e).ty=d:=(rfl)
@[simp] theorem oAMg(a b c d e:Nat):(oAM a b c d e).g=some (e,false):=(rfl)
def oAN(a b c d e f:Nat):QOp:=⟨some a,.call {callee:=.value (.func b),args:=#[.tmp c],argTypes:=#[d]},e,some (f,false)⟩
@[simp] theorem yq5(a b c d e f:Nat):(oAN a b c d e f).dst=some a:=(rfl)
@[simp] theorem yxi(a b c d e f:Nat):(oAN a b c d e f).op=.call {callee:=.value (.func b),args:=#[.tmp c],argTypes:=#[d]}:=(rfl)
@[simp] theorem yxj(a b c d e f:Nat):(oAN a b c d e f).ty=e:=(rfl)
@[simp] theorem oANg(a b c d e f:Nat):(oAN a b c d e f).g=some (f,false):=(rfl)
def oAO(a b c d e f:Nat):QOp:=⟨some a,.call {callee:=.value (.func b),args:=#[.tmp c],argTypes:=#[d]},e,some (f,true)⟩
@[simp] theorem yq6(a b c d e f:Nat):(oAO a b c d e f).dst=some a:=(rfl)
@[simp] theorem yxk(a b c d e f:Nat):(oAO a b c d e f).op=.call {callee:=.value (.func b),args:=#[.tmp c],argTypes:=#[d]}:=(rfl)
@[simp] theorem yxl(a b c d e f:Nat):(oAO a b c d e f).ty=e:=(rfl)
@[simp] theorem oAOg(a b c d e f:Nat):(oAO a b c d e f).g=some (f,true):=(rfl)
def oAP(a:Nat)(b:Nat)(c:Nat)(d:Int)(e:Nat)(f:Nat):QOp:=⟨some a,.binOp .lss b (.tmp c) (.const (.int .i64 d)) e,f,none⟩
@[simp] theorem yq7(a:Nat)(b:Nat)(c:Nat)(d:Int)(e:Nat)(f:Nat):(oAP a b c d e f).dst=some a:=(rfl)
@[simp] theorem yxm(a:Nat)(b:Nat)(c:Nat)(d:Int)(e:Nat)(f:Nat):(oAP a b c d e f).op=.binOp .lss b (.tmp c) (.const (.int .i64 d)) e:=(rfl)
@[simp] theorem yxn(a:Nat)(b:Nat)(c:Nat)(d:Int)(e:Nat)(f:Nat):(oAP a b c d e f).ty=f:=(rfl)
@[simp] theorem oAPg(a:Nat)(b:Nat)(c:Nat)(d:Int)(e:Nat)(f:Nat):(oAP a b c d e f).g=none:=(rfl)
def oAQ(a b c d e f:Nat):QOp:=⟨some a,.index b (.tmp c) (.tmp d),e,some (f,false)⟩
@[simp] theorem yq8(a b c d e f:Nat):(oAQ a b c d e f).dst=some a:=(rfl)
@[simp] theorem yxo(a b c d e f:Nat):(oAQ a b c d e f).op=.index b (.tmp c) (.tmp d):=(rfl)
@[simp] theorem yxp(a b c d e f:Nat):(oAQ a b c d e f).ty=e:=(rfl)
@[simp] theorem oAQg(a b c d e f:Nat):(oAQ a b c d e f).g=some (f,false):=(rfl)
def oAR(a b c d e:Nat):QOp:=⟨some a,.call {callee:=.builtin .len,args:=#[.tmp b],argTypes:=#[c]},d,some (e,true)⟩
@[simp] theorem yq9(a b c d e:Nat):(oAR a b c d e).dst=some a:=(rfl)
@[simp] theorem yxq(a b c d e:Nat):(oAR a b c d e).op=.call {callee:=.builtin .len,args:=#[.tmp b],argTypes:=#[c]}:=(rfl)
@[simp] theorem yxr(a b c d e:Nat):(oAR a b c d e).ty=d:=(rfl)
@[simp] theorem oARg(a b c d e:Nat):(oAR a b c d e).g=some (e,true):=(rfl)
def oAS(a:Nat)(b:Nat)(c:Nat)(d:Int)(e:Nat)(f:Nat):QOp:=⟨some a,.binOp .neq b (.tmp c) (.const (.int .i64 d)) e,f,none⟩
@[simp] theorem yra(a:Nat)(b:Nat)(c:Nat)(d:Int)(e:Nat)(f:Nat):(oAS a b c d e f).dst=some a:=(rfl)
@[simp] theorem yxs(a:Nat)(b:Nat)(c:Nat)(d:Int)(e:Nat)(f:Nat):(oAS a b c d e f).op=.binOp .neq b (.tmp c) (.const (.int .i64 d)) e:=(rfl)
@[simp] theorem yxt(a:Nat)(b:Nat)(c:Nat)(d:Int)(e:Nat)(f:Nat):(oAS a b c d e f).ty=f:=(rfl)
@[simp] theorem oASg(a:Nat)(b:Nat)(c:Nat)(d:Int)(e:Nat)(f:Nat):(oAS a b c d e f).g=none:=(rfl)
def oAT(a:Nat)(b:Nat)(c:Nat)(d:Int)(e:Nat)(f:Nat):QOp:=⟨some a,.binOp .sub b (.tmp c) (.const (.int .i64 d)) e,f,none⟩
@[simp] theorem yrb(a:Nat)(b:Nat)(c:Nat)(d:Int)(e:Nat)(f:Nat):(oAT a b c d e f).dst=some a:=(rfl)
@[simp] theorem yxu(a:Nat)(b:Nat)(c:Nat)(d:Int)(e:Nat)(f:Nat):(oAT a b c d e f).op=.binOp .sub b (.tmp c) (.const (.int .i64 d)) e:=(rfl)
@[simp] theorem yxv(a:Nat)(b:Nat)(c:Nat)(d:Int)(e:Nat)(f:Nat):(oAT a b c d e f).ty=f:=(rfl)
@[simp] theorem oATg(a:Nat)(b:Nat)(c:Nat)(d:Int)(e:Nat)(f:Nat):(oAT a b c d e f).g=none:=(rfl)
def oAU(a b c d e:Nat):QOp:=⟨some a,.pick (.tmp b) (.tmp c) (.const (.bool false)),d,some (e,false)⟩
@[simp] theorem yrc(a b c d e:Nat):(oAU a b c d e).dst=some a:=(rfl)
@[simp] theorem yxw(a b c d e:Nat):(oAU a b c d e).op=.pick (.tmp b) (.tmp c) (.const (.bool false)):=(rfl)
@[simp] theorem yxx(a b c d e:Nat):(oAU a b c d e).ty=d:=(rfl)
@[simp] theorem oAUg(a b c d e:Nat):(oAU a b c d e).g=some (e,false):=(rfl)
def oAV(a:Nat)(b:Nat)(c:Nat)(d:Int)(e:Nat)(f:Nat)(g:Nat):QOp:=⟨some a,.binOp .gtr b (.tmp c) (.const (.int .u8 d)) e,f,some (g,false)⟩
@[simp] theorem yrd(a:Nat)(b:Nat)(c:Nat)(d:Int)(e:Nat)(f:Nat)(g:Nat):(oAV a b c d e f g).dst=some a:=(rfl)
@[simp] theorem yxy(a:Nat)(b:Nat)(c:Nat)(d:Int)(e:Nat)(f:Nat)(g:Nat):(oAV a b c d e f g).op=.binOp .gtr b (.tmp c) (.const (.int .u8 d)) e:=(rfl)
@[simp] theorem yxz(a:Nat)(b:Nat)(c:Nat)(d:Int)(e:Nat)(f:Nat)(g:Nat):(oAV a b c d e f g).ty=f:=(rfl)
@[simp] theorem oAVg(a:Nat)(b:Nat)(c:Nat)(d:Int)(e:Nat)(f:Nat)(g:Nat):(oAV a b c d e f g).g=some (g,false):=(rfl)
def oAW(a:Nat)(b:Nat)(c:Nat)(d:Int)(e:Nat)(f:Nat)(g:Nat):QOp:=⟨some a,.binOp .leq b (.tmp c) (.const (.int .u8 d)) e,f,some (g,true)⟩
@[simp] theorem yre(a:Nat)(b:Nat)(c:Nat)(d:Int)(e:Nat)(f:Nat)(g:Nat):(oAW a b c d e f g).dst=some a:=(rfl)
@[simp] theorem yx0(a:Nat)(b:Nat)(c:Nat)(d:Int)(e:Nat)(f:Nat)(g:Nat):(oAW a b c d e f g).op=.binOp .leq b (.tmp c) (.const (.int .u8 d)) e:=(rfl)
@[simp] theorem yx1(a:Nat)(b:Nat)(c:Nat)(d:Int)(e:Nat)(f:Nat)(g:Nat):(oAW a b c d e f g).ty=f:=(rfl)
@[simp] theorem oAWg(a:Nat)(b:Nat)(c:Nat)(d:Int)(e:Nat)(f:Nat)(g:Nat):(oAW a b c d e f g).g=some (g,true):=(rfl)
def oAX(a b c d e f g h:Nat):QOp:=⟨some a,.call {callee:=.value (.func b),args:=#[.tmp c,.func d],argTypes:=#[e,f]},g,some (h,true)⟩
@[simp] theorem yrf(a b c d e f g h:Nat):(oAX a b c d e f g h).dst=some a:=(rfl)
@[simp] theorem yx2(a b c d e f g h:Nat):(oAX a b c d e f g h).op=.call {callee:=.value (.func b),args:=#[.tmp c,.func d],argTypes:=#[e,f]}:=(rfl)
@[simp] theorem yx3(a b c d e f g h:Nat):(oAX a b c d e f g h).ty=g:=(rfl)
@[simp] theorem oAXg(a b c d e f g h:Nat):(oAX a b c d e f g h).g=some (h,true):=(rfl)
def oAY(a:Nat)(b:Nat)(c:Nat)(d:Int)(e:Int)(f:Nat)(g:Nat)(h:Nat)(i:Nat):QOp:=⟨some a,.call {callee:=.value (.func b),args:=#[.tmp c,.const (.int .i64 d),.const (.int .i64 e)],argTypes:=#[f,g,h]},i,none⟩
@[simp] theorem yrg(a:Nat)(b:Nat)(c:Nat)(d:Int)(e:Int)(f:Nat)(g:Nat)(h:Nat)(i:Nat):(oAY a b c d e f g h i).dst=some a:=(rfl)
@[simp] theorem yx4(a:Nat)(b:Nat)(c:Nat)(d:Int)(e:Int)(f:Nat)(g:Nat)(h:Nat)(i:Nat):(oAY a b c d e f g h i).op=.call {callee:=.value (.func b),args:=#[.tmp c,.const (.int .i64 d),.const (.int .i64 e)],argTypes:=#[f,g,h]}:=(rfl)
@[simp] theorem yx5(a:Nat)(b:Nat)(c:Nat)(d:Int)(e:Int)(f:Nat)(g:Nat)(h:Nat)(i:Nat):(oAY a b c d e f g h i).ty=i:=(rfl)
@[simp] theorem oAYg(a:Nat)(b:Nat)(c:Nat)(d:Int)(e:Int)(f:Nat)(g:Nat)(h:Nat)(i:Nat):(oAY a b c d e f g h i).g=none:=(rfl)
def oAZ(a b c d e f g h i j k l m n o p q r s t:Nat):QOp:=⟨some a,.buildSlice b c #[(d,.const (.string {data:=#[109,107,100,105,114,32,97,32,55]})),(e,.const (.string {data:=#[109,107,100,105,114,32,108,105,98,32,55]})),(f,.const (.string {data:=#[109,107,100,105,114,32,100,111,99,32,55]})),(g,.const (.string {data:=#[109,107,100,105,114,32,97,47,98,32,53]})),(h,.const (.string {data:=#[99,111,112,121,32,108,105,98,47,120,46,99,32,115,114,99]})),(i,.const (.string {data:=#[99,111,112,121,32,97,47,99,32,115,114,99]})),(j,.const (.string {data:=#[119,114,105,116,101,32,100,111,99,47,121,32,52,32,116,101,120,116,32,111,102,32,105,116]})),(k,.const (.string {data:=#[119,114,105,116,101,32,97,47,99,32,54,32,111,110,101]})),(l,.const (.string {data:=#[108,105,110,107,32,98,32,97,47,99]})),(m,.const (.string {data:=#[109,111,118,101,32,97,47,99,32,97,47,100]})),(n,.const (.string {data:=#[100,114,111,112,32,97,47,99]})),(o,.const (.string {data:=#[109,111,100,101,32,97,47,99,32,49]})),(p,.const (.string {data:=#[115,119,97,112,32,97,47,99,32,111,110,101,32,116,119,111]})),(q,.const (.string {data:=#[112,97,116,99,104,32,108,105,98,47,120,46,99,32,102,105,120]})),(r,.const (.string {data:=#[119,114,105,116,101,32,98,32,52,32,98]})),(s,.const (.string {data:=#[109,107,100,105,114,32,36,123,100,105,114,125,32,55]}))],t,none⟩
@[simp] theorem yrh(a b c d e f g h i j k l m n o p q r s t:Nat):(oAZ a b c d e f g h i j k l m n o p q r s t).dst=some a:=(rfl)
@[simp] theorem yx6(a b c d e f g h i j k l m n o p q r s t:Nat):(oAZ a b c d e f g h i j k l m n o p q r s t).op=.buildSlice b c #[(d,.const (.string {data:=#[109,107,100,105,114,32,97,32,55]})),(e,.const (.string {data:=#[109,107,100,105,114,32,108,105,98,32,55]})),(f,.const (.string {data:=#[109,107,100,105,114,32,100,111,99,32,55]})),(g,.const (.string {data:=#[109,107,100,105,114,32,97,47,98,32,53]})),(h,.const (.string {data:=#[99,111,112,121,32,108,105,98,47,120,46,99,32,115,114,99]})),(i,.const (.string {data:=#[99,111,112,121,32,97,47,99,32,115,114,99]})),(j,.const (.string {data:=#[119,114,105,116,101,32,100,111,99,47,121,32,52,32,116,101,120,116,32,111,102,32,105,116]})),(k,.const (.string {data:=#[119,114,105,116,101,32,97,47,99,32,54,32,111,110,101]})),(l,.const (.string {data:=#[108,105,110,107,32,98,32,97,47,99]})),(m,.const (.string {data:=#[109,111,118,101,32,97,47,99,32,97,47,100]})),(n,.const (.string {data:=#[100,114,111,112,32,97,47,99]})),(o,.const (.string {data:=#[109,111,100,101,32,97,47,99,32,49]})),(p,.const (.string {data:=#[115,119,97,112,32,97,47,99,32,111,110,101,32,116,119,111]})),(q,.const (.string {data:=#[112,97,116,99,104,32,108,105,98,47,120,46,99,32,102,105,120]})),(r,.const (.string {data:=#[119,114,105,116,101,32,98,32,52,32,98]})),(s,.const (.string {data:=#[109,107,100,105,114,32,36,123,100,105,114,125,32,55]}))]:=(rfl)
@[simp] theorem yx7(a b c d e f g h i j k l m n o p q r s t:Nat):(oAZ a b c d e f g h i j k l m n o p q r s t).ty=t:=(rfl)
@[simp] theorem oAZg(a b c d e f g h i j k l m n o p q r s t:Nat):(oAZ a b c d e f g h i j k l m n o p q r s t).g=none:=(rfl)
def oBA(a b c d e f g h i j k l m n o p q r s t:Nat):QOp:=⟨some a,.buildSlice b c #[(d,.const (.string {data:=#[97]})),(e,.const (.string {data:=#[42]})),(f,.const (.string {data:=#[42,42]})),(g,.const (.string {data:=#[97,47,42]})),(h,.const (.string {data:=#[97,47,42,42]})),(i,.const (.string {data:=#[42,42,47,99]})),(j,.const (.string {data:=#[108,105,98,47,42,46,99]})),(k,.const (.string {data:=#[108,105,98,47,63]})),(l,.const (.string {data:=#[91,97,98,93]})),(m,.const (.string {data:=#[91,33,97,93,47,42]})),(n,.const (.string {data:=#[98,42]})),(o,.const (.string {data:=#[42,42,47,98,47,42,42]})),(p,.const (.string {data:=#[42,47,42]})),(q,.const (.string {data:=#[100,111,99,47,42,42]})),(r,.const (.string {data:=#[120,42,121,42,122]})),(s,.const (.string {data:=#[91,97,45,93]}))],t,none⟩
@[simp] theorem yri(a b c d e f g h i j k l m n o p q r s t:Nat):(oBA a b c d e f g h i j k l m n o p q r s t).dst=some a:=(rfl)
@[simp] theorem yx8(a b c d e f g h i j k l m n o p q r s t:Nat):(oBA a b c d e f g h i j k l m n o p q r s t).op=.buildSlice b c #[(d,.const (.string {data:=#[97]})),(e,.const (.string {data:=#[42]})),(f,.const (.string {data:=#[42,42]})),(g,.const (.string {data:=#[97,47,42]})),(h,.const (.string {data:=#[97,47,42,42]})),(i,.const (.string {data:=#[42,42,47,99]})),(j,.const (.string {data:=#[108,105,98,47,42,46,99]})),(k,.const (.string {data:=#[108,105,98,47,63]})),(l,.const (.string {data:=#[91,97,98,93]})),(m,.const (.string {data:=#[91,33,97,93,47,42]})),(n,.const (.string {data:=#[98,42]})),(o,.const (.string {data:=#[42,42,47,98,47,42,42]})),(p,.const (.string {data:=#[42,47,42]})),(q,.const (.string {data:=#[100,111,99,47,42,42]})),(r,.const (.string {data:=#[120,42,121,42,122]})),(s,.const (.string {data:=#[91,97,45,93]}))]:=(rfl)
@[simp] theorem yx9(a b c d e f g h i j k l m n o p q r s t:Nat):(oBA a b c d e f g h i j k l m n o p q r s t).ty=t:=(rfl)
@[simp] theorem oBAg(a b c d e f g h i j k l m n o p q r s t:Nat):(oBA a b c d e f g h i j k l m n o p q r s t).g=none:=(rfl)
theorem zaa{q r:zac}(h:q=r)(c:Ctx)(e:Env)(ks:List Fr):Run c q e ks=Run c r e ks:=h▸rfl
abbrev Fn10:FuncId:=10
def q10c0:zac:=.seq (.ops [oA 55 1 22,oI 56 32 55 22 9,oB 9 56 9]) (.seq (.ops [oA 58 9 9,oI 59 28 58 9 52,oA 57 59 52,oM 60 57 0 29,oM 61 57 1 4,oP 10 29 0,oG 29 10 60 0,oB 11 61 4]) (.seq (.ops [oA 63 9 9,oI 64 27 63 9 52,oA 62 64 52,oM 65 62 0 29,oM 66 62 1 4,oP 12 29 0,oG 29 12 65 0,oB 13 66 4]) (.seq (.ops [oA 67 11 4,oA 68 13 4,⟨some 69,.binOp .eql 4 (.tmp 67) (.tmp 68) 4,4,none⟩,oA 70 69 4,oAD 71 29 10 29 70,oAD 72 29 12 29 70,⟨some 73,.call {callee:=.value (.func 31),args:=#[.tmp 71,.tmp 72],argTypes:=#[29,29]},4,some (70,true)⟩,oR 74 70 73 4,oA 75 74 4,oO 76 11 4 75,⟨some 77,.unOp .not 4 (.tmp 76),4,some (75,true)⟩,oO 78 77 4 75,oX 79 29 10 29 78,oAN 80 26 79 29 9 78,oK 81 9 9 78,⟨some 82,.binOp .eql 9 (.tmp 80) (.tmp 81) 9,4,some (78,false)⟩,⟨some 83,.pick (.tmp 78) (.const (.bool true)) (.tmp 82),4,some (75,true)⟩,oR 84 75 83 4,oB 4 84 4]) (.ret))))
@[simp] theorem yrj:type_of% (zaa q10c0.eq_1):=zaa rfl
def q10c1:zac:=.seq (.ops [oA 22 0 22,oI 23 30 22 22 29,oP 5 29 0,oG 29 5 23 0]) (.seq (.ops [oC 24 29 5 29,oI 25 26 24 29 9,oB 6 25 9]) (.seq (.ops [oA 27 6 9,oI 28 28 27 9 52,oA 26 28 52,oM 29 26 0 29,oM 30 26 1 4,oP 7 29 0,oG 29 7 29 0,oB 8 30 4]) (.seq (.seq (.ops [oA 31 6 9,oC 32 29 5 29,oI 33 25 32 29 9,⟨some 34,.binOp .neq 9 (.tmp 31) (.tmp 33) 9,4,none⟩,oA 35 34 4,oK 36 8 4 35,oK 37 6 9 35,⟨some 38,.binOp .neq 9 (.tmp 37) (.const (.string {data:=#[]})) 9,4,some (35,false)⟩,oK 39 38 4 35,oO 40 6 9 39,oAR 41 40 9 3 39,⟨some 42,.binOp .leq 3 (.tmp 41) (.const (.int .i64 1500)) 3,4,some (39,true)⟩,oAU 43 39 42 4 35,⟨some 44,.binOp .neq 4 (.tmp 36) (.tmp 43) 4,4,some (35,false)⟩,oQ 45 35 44 4,oA 46 45 4,oK 47 8 4 46,oK 48 47 4 46,oAD 49 29 7 29 48,oAD 50 29 5 29 48,⟨some 51,.call {callee:=.value (.func 31),args:=#[.tmp 49,.tmp 50],argTypes:=#[29,29]},4,some (48,true)⟩,⟨some 52,.unOp .not 4 (.tmp 51),4,some (48,true)⟩,oAU 53 48 52 4 46,oQ 54 46 53 4]) (.cond (.tmp 54) (.seq (.ops [oE 4 4]) (.ret)) (.skip))) (q10c0))))
@[simp] theorem yrk:type_of% (zaa q10c1.eq_1):=zaa rfl
@[simp] def q10:QFn:=⟨85,[(.tmp 4,4)],.seq (.ops [oE 4 4]) (.seq (.seq (.ops [oA 14 0 22,oF 15 14 22 3,oAL 16 3 15 1048576 3 4,oA 17 16 4,oK 18 1 22 17,oAM 19 18 22 3 17,⟨some 20,.binOp .gtr 3 (.tmp 19) (.const (.int .i64 1048576)) 3,4,some (17,false)⟩,oQ 21 17 20 4]) (.cond (.tmp 21) (.seq (.ops [oAB 4 4]) (.ret)) (.skip))) (q10c1))⟩
theorem Cv10:zao Tryz.f10=some q10:=by kernel_rfl
abbrev Fn12:FuncId:=12
def q12c0:zac:=.seq (.ops [oC 11 29 1 29,oI 12 37 11 29 61,oA 10 12 61,oM 13 10 0 27,oM 14 10 1 3,oB 3 13 27,oB 4 14 3]) (.seq (.ops [oA 15 4 3,oB 2 15 3]) (.ret))
@[simp] theorem yrl:type_of% (zaa q12c0.eq_1):=zaa rfl
def q12c1:zac:=.seq (.seq (.ops [oC 8 29 1 29,oI 9 36 8 29 4]) (.cond (.tmp 9) (.seq (.ops [oH 2 2 3]) (.ret)) (.skip))) (q12c0)
@[simp] theorem yrm:type_of% (zaa q12c1.eq_1):=zaa rfl
@[simp] def q12:QFn:=⟨16,[(.tmp 2,3)],.seq (.ops [oZ 1 29 0 0,oH 2 0 3]) (.seq (.seq (.ops [oC 5 29 1 29,oI 6 35 5 29 4,oU 7 4 6 4]) (.cond (.tmp 7) (.seq (.ops [oH 2 1 3]) (.ret)) (.skip))) (q12c1))⟩
theorem Cv12:zao Tryz.f12=some q12:=by kernel_rfl
abbrev Fn13:FuncId:=13
def q13c0:zac:=.ops [oA 19 3 3,oJ 20 3 19 1 3 3,oB 3 20 3]
@[simp] theorem yrn:type_of% (zaa q13c0.eq_1):=zaa rfl
def q13c1:zac:=.seq (.block 1 (.seq (.draw [] [⟨some 22,.load 29 (.tmp 1),29,none⟩,⟨some 23,.call {callee:=.value (.func 41),args:=#[.tmp 22],argTypes:=#[29]},23,none⟩,⟨some 24,.fieldAddr 29 (.tmp 1) 2,0,none⟩,⟨some 25,.load 23 (.tmp 24),23,none⟩,⟨some 26,.move (.tmp 3),3,none⟩,⟨some 27,.indexAddr 23 (.tmp 25) (.tmp 26),0,none⟩,⟨some 28,.fieldAddr 33 (.tmp 27) 0,0,none⟩,⟨some 29,.load 9 (.tmp 28),9,none⟩,⟨some 30,.binOp .add 9 (.const (.string {data:=#[36,123]})) (.tmp 29) 9,9,none⟩,⟨some 31,.binOp .add 9 (.tmp 30) (.const (.string {data:=#[125]})) 9,9,none⟩,⟨some 32,.buildSlice 27 0 #[],27,none⟩,⟨some 33,.call {callee:=.value (.func 40),args:=#[.tmp 23,.tmp 31,.tmp 32],argTypes:=#[23,9,27]},63,none⟩,⟨some 21,.move (.tmp 33),63,none⟩,⟨some 34,.extract (.tmp 21) 0,9,none⟩,⟨some 35,.extract (.tmp 21) 1,3,none⟩,⟨some 4,.assign (.tmp 34),9,none⟩] [⟨some 5,.assign (.tmp 35),3,none⟩]) (.seq (.ops [oA 36 5 3,oAS 37 3 36 0 3 4]) (.cond (.tmp 37) (.seq (.ops [oA 38 5 3,oB 2 38 3]) (.ret)) (.skip))))) (q13c0)
@[simp] theorem yro:type_of% (zaa q13c1.eq_1):=zaa rfl
def q13l0:zac:=.seq (.seq (.ops [oA 14 3 3,oD 15 29 1 2 0,oC 16 23 15 23,oF 17 16 23 3,oL 18 3 14 17 3 4]) (.cond (.tmp 18) (.skip) (.exit 0))) (q13c1)
@[simp] theorem yrp:type_of% (zaa q13l0.eq_1):=zaa rfl
def q13c2:zac:=.ops [oA 44 6 3,oJ 45 3 44 1 3 3,oB 6 45 3]
@[simp] theorem yrq:type_of% (zaa q13c2.eq_1):=zaa rfl
def q13c3:zac:=.seq (.block 3 (.seq (.draw [] [⟨some 47,.load 29 (.tmp 1),29,none⟩,⟨some 48,.call {callee:=.value (.func 41),args:=#[.tmp 47],argTypes:=#[29]},23,none⟩,⟨some 49,.fieldAddr 29 (.tmp 1) 7,0,none⟩,⟨some 50,.load 27 (.tmp 49),27,none⟩,⟨some 51,.move (.tmp 6),3,none⟩,⟨some 52,.indexAddr 27 (.tmp 50) (.tmp 51),0,none⟩,⟨some 53,.load 9 (.tmp 52),9,none⟩,⟨some 54,.buildSlice 27 0 #[],27,none⟩,⟨some 55,.call {callee:=.value (.func 40),args:=#[.tmp 48,.tmp 53,.tmp 54],argTypes:=#[23,9,27]},63,none⟩,⟨some 46,.move (.tmp 55),63,none⟩,⟨some 56,.extract (.tmp 46) 0,9,none⟩,⟨some 57,.extract (.tmp 46) 1,3,none⟩,⟨some 7,.assign (.tmp 56),9,none⟩] [⟨some 8,.assign (.tmp 57),3,none⟩]) (.seq (.ops [oA 58 8 3,oAS 59 3 58 0 3 4]) (.cond (.tmp 59) (.seq (.ops [oA 60 8 3,oB 2 60 3]) (.ret)) (.skip))))) (q13c2)
@[simp] theorem yrr:type_of% (zaa q13c3.eq_1):=zaa rfl
def q13l1:zac:=.seq (.seq (.ops [oA 39 6 3,oD 40 29 1 7 0,oC 41 27 40 27,oF 42 41 27 3,oL 43 3 39 42 3 4]) (.cond (.tmp 43) (.skip) (.exit 2))) (q13c3)
@[simp] theorem yrs:type_of% (zaa q13l1.eq_1):=zaa rfl
def q13c4:zac:=.seq (.ops [oH 2 0 3]) (.ret)
@[simp] theorem yrt:type_of% (zaa q13c4.eq_1):=zaa rfl
def q13c5:zac:=.seq (.seq (.ops [oH 6 0 3]) (.block 2 (.loop q13l1))) (q13c4)
@[simp] theorem ydj:type_of% (zaa q13c5.eq_1):=zaa rfl
def q13c6:zac:=.seq (.seq (.ops [oH 3 0 3]) (.block 0 (.loop q13l0))) (q13c5)
@[simp] theorem yru:type_of% (zaa q13c6.eq_1):=zaa rfl
def q13c7:zac:=.seq (.seq (.ops [oC 12 29 1 29,oI 13 39 12 29 4]) (.cond (.tmp 13) (.seq (.ops [oH 2 2 3]) (.ret)) (.skip))) (q13c6)
@[simp] theorem yrv:type_of% (zaa q13c7.eq_1):=zaa rfl
@[simp] def q13:QFn:=⟨61,[(.tmp 2,3)],.seq (.ops [oZ 1 29 0 0,oH 2 0 3]) (.seq (.seq (.ops [oC 9 29 1 29,oI 10 38 9 29 4,oU 11 4 10 4]) (.cond (.tmp 11) (.seq (.ops [oH 2 1 3]) (.ret)) (.skip))) (q13c7))⟩
theorem Cv13:zao Tryz.f13=some q13:=by kernel_rfl
abbrev Fn16:FuncId:=16
def q16c0:zac:=.ops [oA 15 5 3,oJ 16 3 15 1 3 3,oB 5 16 3]
@[simp] theorem yrw:type_of% (zaa q16c0.eq_1):=zaa rfl
def q16c1:zac:=.seq (.block 1 (.seq (.draw [] [⟨some 17,.move (.tmp 0),27,none⟩,⟨some 18,.move (.tmp 5),3,none⟩,⟨some 19,.indexAddr 27 (.tmp 17) (.tmp 18),0,none⟩,⟨some 20,.load 9 (.tmp 19),9,none⟩,⟨some 21,.move (.tmp 1),27,none⟩,⟨some 22,.move (.tmp 5),3,none⟩,⟨some 23,.indexAddr 27 (.tmp 21) (.tmp 22),0,none⟩,⟨some 24,.load 9 (.tmp 23),9,none⟩] [⟨some 25,.binOp .neq 9 (.tmp 20) (.tmp 24) 9,4,none⟩]) (.cond (.tmp 25) (.seq (.ops [oE 4 4]) (.ret)) (.skip)))) (q16c0)
@[simp] theorem yrx:type_of% (zaa q16c1.eq_1):=zaa rfl
def q16l0:zac:=.seq (.seq (.ops [oA 11 5 3,oA 12 0 27,oF 13 12 27 3,oL 14 3 11 13 3 4]) (.cond (.tmp 14) (.skip) (.exit 0))) (q16c1)
@[simp] theorem yry:type_of% (zaa q16l0.eq_1):=zaa rfl
def q16c2:zac:=.seq (.ops [oAB 4 4]) (.ret)
@[simp] theorem yrz:type_of% (zaa q16c2.eq_1):=zaa rfl
def q16c3:zac:=.seq (.seq (.ops [oH 5 0 3]) (.block 0 (.loop q16l0))) (q16c2)
@[simp] theorem yr0:type_of% (zaa q16c3.eq_1):=zaa rfl
@[simp] def q16:QFn:=⟨26,[(.tmp 4,4)],.seq (.ops [oE 4 4]) (.seq (.seq (.ops [oA 6 0 27,oF 7 6 27 3,oA 8 1 27,oF 9 8 27 3,⟨some 10,.binOp .neq 3 (.tmp 7) (.tmp 9) 3,4,none⟩]) (.cond (.tmp 10) (.seq (.ops [oE 4 4]) (.ret)) (.skip))) (q16c3))⟩
theorem Cv16:zao Tryz.f16=some q16:=by kernel_rfl
abbrev Fn25:FuncId:=25
def q25c0:zac:=.seq (.ops [oC 6 29 1 29,oI 7 61 6 29 9,oB 2 7 9]) (.ret)
@[simp] theorem yr1:type_of% (zaa q25c0.eq_1):=zaa rfl
@[simp] def q25:QFn:=⟨8,[(.tmp 2,9)],.seq (.ops [oZ 1 29 0 0,oN 2 9]) (.seq (.seq (.ops [oC 3 29 1 29,oI 4 13 3 29 3,oAS 5 3 4 0 3 4]) (.cond (.tmp 5) (.seq (.ops [oN 2 9]) (.ret)) (.skip))) (q25c0))⟩
theorem Cv25:zao Tryz.f25=some q25:=by kernel_rfl
abbrev Fn26:FuncId:=26
def q26c0:zac:=.ops [oJ 45 3 34 1 3 3,oA 34 45 3]
@[simp] theorem yr2:type_of% (zaa q26c0.eq_1):=zaa rfl
def q26c1:zac:=.seq (.block 1 (.seq (.ops [oS 36 23 32 34 0,oC 37 33 36 33,oP 6 33 0,oG 33 6 37 0]) (.ops [oA 38 4 92,oD 39 33 6 0 0,oC 40 9 39 9,oD 41 33 6 1 0,oC 42 9 41 9,⟨some 43,.buildSlice 27 3 #[(0,.const (.string {data:=#[108,101,116]})),(1,.tmp 40),(2,.tmp 42)],27,none⟩,oAE 44 38 43 27 0]))) (q26c0)
@[simp] theorem yr3:type_of% (zaa q26c1.eq_1):=zaa rfl
def q26l0:zac:=.seq (.ops [oL 35 3 34 33 3 0]) (.seq (.cond (.tmp 35) (.skip) (.exit 0)) (q26c1))
@[simp] theorem yr4:type_of% (zaa q26l0.eq_1):=zaa rfl
def q26c2:zac:=.ops [oJ 58 3 49 1 3 3,oA 49 58 3]
@[simp] theorem yr5:type_of% (zaa q26c2.eq_1):=zaa rfl
def q26c3:zac:=.seq (.block 3 (.seq (.ops [oS 51 24 47 49 0,oC 52 94 51 94,oP 8 94 0,oG 94 8 52 0]) (.ops [oA 53 4 92,oC 54 94 8 94,oI 55 65 54 94 9,⟨some 56,.buildSlice 27 2 #[(0,.const (.string {data:=#[98,117,105,108,100]})),(1,.tmp 55)],27,none⟩,oAE 57 53 56 27 0]))) (q26c2)
@[simp] theorem yr6:type_of% (zaa q26c3.eq_1):=zaa rfl
def q26l1:zac:=.seq (.ops [oL 50 3 49 48 3 0]) (.seq (.cond (.tmp 50) (.skip) (.exit 2)) (q26c3))
@[simp] theorem yr7:type_of% (zaa q26l1.eq_1):=zaa rfl
def q26c4:zac:=.ops [oJ 71 3 62 1 3 3,oA 62 71 3]
@[simp] theorem yr8:type_of% (zaa q26c4.eq_1):=zaa rfl
def q26c5:zac:=.seq (.block 5 (.seq (.ops [oS 64 24 60 62 0,oC 65 94 64 94,oP 10 94 0,oG 94 10 65 0]) (.ops [oA 66 4 92,oC 67 94 10 94,oI 68 65 67 94 9,⟨some 69,.buildSlice 27 2 #[(0,.const (.string {data:=#[114,117,110]})),(1,.tmp 68)],27,none⟩,oAE 70 66 69 27 0]))) (q26c4)
@[simp] theorem yr9:type_of% (zaa q26c5.eq_1):=zaa rfl
def q26l2:zac:=.seq (.ops [oL 63 3 62 61 3 0]) (.seq (.cond (.tmp 63) (.skip) (.exit 4)) (q26c5))
@[simp] theorem ysa:type_of% (zaa q26l2.eq_1):=zaa rfl
def q26c6:zac:=.ops [oJ 86 3 75 1 3 3,oA 75 86 3]
@[simp] theorem ysb:type_of% (zaa q26c6.eq_1):=zaa rfl
def q26c7:zac:=.seq (.block 7 (.seq (.ops [oS 77 25 73 75 0,oC 78 97 77 97,oP 12 97 0,oG 97 12 78 0]) (.ops [oA 79 4 92,oD 80 97 12 0 0,oC 81 9 80 9,oD 82 97 12 1 0,oC 83 9 82 9,⟨some 84,.buildSlice 27 3 #[(0,.const (.string {data:=#[115,111,117,114,99,101]})),(1,.tmp 81),(2,.tmp 83)],27,none⟩,oAE 85 79 84 27 0]))) (q26c6)
@[simp] theorem ysc:type_of% (zaa q26c7.eq_1):=zaa rfl
def q26l3:zac:=.seq (.ops [oL 76 3 75 74 3 0]) (.seq (.cond (.tmp 76) (.skip) (.exit 6)) (q26c7))
@[simp] theorem ysd:type_of% (zaa q26l3.eq_1):=zaa rfl
def q26c8:zac:=.ops [oJ 101 3 90 1 3 3,oA 90 101 3]
@[simp] theorem yse:type_of% (zaa q26c8.eq_1):=zaa rfl
def q26c9:zac:=.seq (.block 9 (.seq (.ops [oS 92 26 88 90 0,oC 93 35 92 35,oP 14 35 0,oG 35 14 93 0]) (.ops [oA 94 4 92,oD 95 35 14 0 0,oC 96 9 95 9,oD 97 35 14 1 0,oC 98 9 97 9,⟨some 99,.buildSlice 27 3 #[(0,.const (.string {data:=#[112,105,101,99,101]})),(1,.tmp 96),(2,.tmp 98)],27,none⟩,oAE 100 94 99 27 0]))) (q26c8)
@[simp] theorem ysf:type_of% (zaa q26c9.eq_1):=zaa rfl
def q26l4:zac:=.seq (.ops [oL 91 3 90 89 3 0]) (.seq (.cond (.tmp 91) (.skip) (.exit 8)) (q26c9))
@[simp] theorem ysg:type_of% (zaa q26l4.eq_1):=zaa rfl
def q26c10:zac:=.ops [oJ 113 3 105 1 3 3,oA 105 113 3]
@[simp] theorem yhf:type_of% (zaa q26c10.eq_1):=zaa rfl
def q26c11:zac:=.seq (.block 11 (.seq (.ops [oS 107 27 103 105 0,oC 108 9 107 9,oB 16 108 9]) (.ops [oA 109 4 92,oA 110 16 9,⟨some 111,.buildSlice 27 2 #[(0,.const (.string {data:=#[115,116,101,112]})),(1,.tmp 110)],27,none⟩,oAE 112 109 111 27 0]))) (q26c10)
@[simp] theorem yhg:type_of% (zaa q26c11.eq_1):=zaa rfl
def q26l5:zac:=.seq (.ops [oL 106 3 105 104 3 0]) (.seq (.cond (.tmp 106) (.skip) (.exit 10)) (q26c11))
@[simp] theorem ysh:type_of% (zaa q26l5.eq_1):=zaa rfl
def q26c12:zac:=.seq (.ops [oI 114 66 3 86 9,oB 2 114 9]) (.ret)
@[simp] theorem zvp:type_of% (zaa q26c12.eq_1):=zaa rfl
def q26c13:zac:=.seq (.seq (.ops [oD 102 29 1 7 0,oC 103 27 102 27,oF 104 103 27 3,oAC 105 0 3]) (.block 10 (.loop q26l5))) (q26c12)
@[simp] theorem z17:type_of% (zaa q26c13.eq_1):=zaa rfl
def q26c14:zac:=.seq (.seq (.ops [oD 87 29 1 6 0,oC 88 26 87 26,oF 89 88 26 3,oAC 90 0 3]) (.block 8 (.loop q26l4))) (q26c13)
@[simp] theorem z18:type_of% (zaa q26c14.eq_1):=zaa rfl
def q26c15:zac:=.seq (.seq (.ops [oD 72 29 1 5 0,oC 73 25 72 25,oF 74 73 25 3,oAC 75 0 3]) (.block 6 (.loop q26l3))) (q26c14)
@[simp] theorem z19:type_of% (zaa q26c15.eq_1):=zaa rfl
def q26c16:zac:=.seq (.seq (.ops [oD 59 29 1 4 0,oC 60 24 59 24,oF 61 60 24 3,oAC 62 0 3]) (.block 4 (.loop q26l2))) (q26c15)
@[simp] theorem z2a:type_of% (zaa q26c16.eq_1):=zaa rfl
def q26c17:zac:=.seq (.seq (.ops [oD 46 29 1 3 0,oC 47 24 46 24,oF 48 47 24 3,oAC 49 0 3]) (.block 2 (.loop q26l1))) (q26c16)
@[simp] theorem z2b:type_of% (zaa q26c17.eq_1):=zaa rfl
def q26c18:zac:=.seq (.ops [oP 3 86 0]) (.seq (.ops [⟨some 20,.makeFunc (.func 62) #[] #[.tmp 3],92,none⟩,oB 4 20 92]) (.seq (.ops [oA 21 4 92,oD 22 29 1 0 0,oC 23 9 22 9,⟨some 24,.buildSlice 27 2 #[(0,.const (.string {data:=#[110,97,109,101]})),(1,.tmp 23)],27,none⟩,oAE 25 21 24 27 0]) (.seq (.ops [oA 26 4 92,oD 27 29 1 1 0,oC 28 9 27 9,⟨some 29,.buildSlice 27 2 #[(0,.const (.string {data:=#[118,101,114,115,105,111,110]})),(1,.tmp 28)],27,none⟩,oAE 30 26 29 27 0]) (.seq (.seq (.ops [oD 31 29 1 2 0,oC 32 23 31 23,oF 33 32 23 3,oAC 34 0 3]) (.block 0 (.loop q26l0))) (q26c17)))))
@[simp] theorem z9n:type_of% (zaa q26c18.eq_1):=zaa rfl
@[simp] def q26:QFn:=⟨115,[(.tmp 2,9)],.seq (.ops [oZ 1 29 0 0,oN 2 9]) (.seq (.seq (.ops [oC 17 29 1 29,oI 18 12 17 29 3,oAS 19 3 18 0 3 4]) (.cond (.tmp 19) (.seq (.ops [oN 2 9]) (.ret)) (.skip))) (q26c18))⟩
theorem Cv26:zao Tryz.f26=some q26:=by kernel_rfl
abbrev Fn27:FuncId:=27
def q27c0:zac:=.ops [oC 38 29 7 29,oG 29 4 38 0]
@[simp] theorem ysi:type_of% (zaa q27c0.eq_1):=zaa rfl
def q27c1:zac:=.ops [oA 24 6 3,oJ 25 3 24 1 3 3,oB 6 25 3]
@[simp] theorem ysj:type_of% (zaa q27c1.eq_1):=zaa rfl
def q27c2:zac:=.seq (.block 1 (.seq (.free [⟨some 27,.load 29 (.tmp 4),29,none⟩,⟨some 28,.move (.tmp 5),27,none⟩,⟨some 29,.move (.tmp 6),3,none⟩,⟨some 30,.indexAddr 27 (.tmp 28) (.tmp 29),0,none⟩,⟨some 31,.load 9 (.tmp 30),9,none⟩,⟨some 32,.call {callee:=.value (.func 68),args:=#[.tmp 27,.tmp 31],argTypes:=#[29,9]},52,none⟩,⟨some 26,.move (.tmp 32),52,none⟩,⟨some 33,.extract (.tmp 26) 0,29,none⟩,⟨some 34,.extract (.tmp 26) 1,4,none⟩,⟨some 7,.alloc 29,0,none⟩,⟨none,.store 29 (.tmp 7) (.tmp 33),0,none⟩,⟨some 8,.assign (.tmp 34),4,none⟩] [[],[],[],[1,2],[3],[0,4],[5],[6],[6],[],[9,7,5,0,1,2,3,4,5,6,7,9],[8,10,0,1,2,3,4,5,6,7,8,9,10]]) (.seq (.seq (.ops [oA 35 8 4,oU 36 4 35 4]) (.cond (.tmp 36) (.seq (.ops [⟨some 37,.build 29 #[],29,none⟩,oG 29 2 37 0,oE 3 4]) (.ret)) (.skip))) (q27c0)))) (q27c1)
@[simp] theorem ysk:type_of% (zaa q27c2.eq_1):=zaa rfl
def q27l0:zac:=.seq (.seq (.ops [oA 15 6 3,oJ 16 3 15 1 3 3,oA 17 5 27,oF 18 17 27 3,oL 19 3 16 18 3 4,oA 20 19 4,oO 21 6 3 20,⟨some 22,.binOp .lss 3 (.tmp 21) (.const (.int .i64 60)) 3,4,some (20,true)⟩,oR 23 20 22 4]) (.cond (.tmp 23) (.skip) (.exit 0))) (q27c2)
@[simp] theorem ysl:type_of% (zaa q27l0.eq_1):=zaa rfl
def q27c3:zac:=.seq (.ops [oC 54 29 4 29,oG 29 2 54 0,oAB 3 4]) (.ret)
@[simp] theorem ysm:type_of% (zaa q27c3.eq_1):=zaa rfl
def q27c4:zac:=.seq (.seq (.ops [oA 39 0 9,oF 40 39 9 3,oAL 41 3 40 1500 3 4,oA 42 41 4,oX 43 29 4 29 42,oAN 44 13 43 29 3 42,⟨some 45,.binOp .neq 3 (.tmp 44) (.const (.int .i64 0)) 3,4,some (42,false)⟩,oQ 46 42 45 4,oA 47 46 4,oX 48 29 4 29 47,oAN 49 61 48 29 9 47,oK 50 0 9 47,⟨some 51,.binOp .neq 9 (.tmp 49) (.tmp 50) 9,4,some (47,false)⟩,oQ 52 47 51 4]) (.cond (.tmp 52) (.seq (.ops [⟨some 53,.build 29 #[],29,none⟩,oG 29 2 53 0,oE 3 4]) (.ret)) (.skip))) (q27c3)
@[simp] theorem z2c:type_of% (zaa q27c4.eq_1):=zaa rfl
@[simp] def q27:QFn:=⟨55,[(.cell 2 29,29),(.tmp 3,4)],.seq (.ops [oP 2 29 0,oE 3 4]) (.seq (.ops [⟨some 9,.build 29 #[],29,none⟩,oP 4 29 0,oG 29 4 9 0]) (.seq (.ops [oA 10 0 9,oA 11 0 9,oF 12 11 9 3,oJ 13 3 12 1 3 3,⟨some 14,.call {callee:=.value (.func 67),args:=#[.tmp 10,.const (.int .u8 10),.tmp 13],argTypes:=#[9,5,3]},27,none⟩,oB 5 14 27]) (.seq (.seq (.ops [oH 6 0 3]) (.block 0 (.loop q27l0))) (q27c4))))⟩
theorem Cv27:zao Tryz.f27=some q27:=by kernel_rfl
abbrev Fn28:FuncId:=28
def q28c0:zac:=.seq (.ops [oC 33 29 6 29,oG 29 2 33 0,⟨none,.store 4 (.tmp 3) (.const (.bool true)),0,none⟩]) (.ret)
@[simp] theorem ysn:type_of% (zaa q28c0.eq_1):=zaa rfl
def q28c1:zac:=.seq (.seq (.ops [oC 28 29 6 29,oI 29 26 28 29 9,oA 30 0 9,⟨some 31,.binOp .neq 9 (.tmp 29) (.tmp 30) 9,4,none⟩]) (.cond (.tmp 31) (.seq (.ops [⟨some 32,.build 29 #[],29,none⟩,oG 29 2 32 0,⟨none,.store 4 (.tmp 3) (.const (.bool false)),0,none⟩]) (.ret)) (.skip))) (q28c0)
@[simp] theorem ydk:type_of% (zaa q28c1.eq_1):=zaa rfl
def q28c2:zac:=.seq (.ops [oP 6 29 0]) (.seq (.seq (.ops [oA 21 4 9,⟨some 22,.call {callee:=.value (.func 70),args:=#[.tmp 21,.const (.string {data:=#[10]})],argTypes:=#[9,9]},104,none⟩]) (.block 0 (.range 22 [23] (.ops [oB 7 23 9]) (.block 1 (.seq (.ops [oA 24 7 9,oT 25 71 6 24 29 9 4,oU 26 4 25 4]) (.cond (.tmp 26) (.seq (.ops [⟨some 27,.build 29 #[],29,none⟩,oG 29 2 27 0,⟨none,.store 4 (.tmp 3) (.const (.bool false)),0,none⟩]) (.ret)) (.skip))))))) (q28c1))
@[simp] theorem yso:type_of% (zaa q28c2.eq_1):=zaa rfl
@[simp] def q28:QFn:=⟨34,[(.cell 2 29,29),(.cell 3 4,4)],.seq (.ops [oP 2 29 0,oP 3 4 0]) (.seq (.ops [oA 9 0 9,⟨some 10,.call {callee:=.value (.func 69),args:=#[.tmp 9,.const (.string {data:=#[10]})],argTypes:=#[9,9]},101,none⟩,oA 8 10 101,oM 11 8 0 9,oM 12 8 1 4,oB 4 11 9,oB 5 12 4]) (.seq (.seq (.ops [oA 13 0 9,oF 14 13 9 3,oAL 15 3 14 1500 3 4,oA 16 15 4,oK 17 5 4 16,⟨some 18,.unOp .not 4 (.tmp 17),4,some (16,false)⟩,oQ 19 16 18 4]) (.cond (.tmp 19) (.seq (.ops [⟨some 20,.build 29 #[],29,none⟩,oG 29 2 20 0,⟨none,.store 4 (.tmp 3) (.const (.bool false)),0,none⟩]) (.ret)) (.skip))) (q28c2)))⟩
theorem Cv28:zao Tryz.f28=some q28:=by kernel_rfl
abbrev Fn30:FuncId:=30
@[simp] def q30:QFn:=⟨6,[(.cell 2 29,29)],.seq (.ops [oP 2 29 0]) (.seq (.ops [oA 3 0 22,oI 4 34 3 22 58,oI 5 33 4 58 29,oG 29 2 5 0]) (.ret))⟩
theorem Cv30:zao Tryz.f30=some q30:=by kernel_rfl
abbrev Fn31:FuncId:=31
def q31c0:zac:=.ops [oA 74 5 3,oJ 75 3 74 1 3 3,oB 5 75 3]
@[simp] theorem ysp:type_of% (zaa q31c0.eq_1):=zaa rfl
def q31c1:zac:=.seq (.block 1 (.seq (.draw [] [⟨some 76,.fieldAddr 29 (.tmp 2) 2,0,none⟩,⟨some 77,.load 23 (.tmp 76),23,none⟩,⟨some 78,.move (.tmp 5),3,none⟩,⟨some 79,.indexAddr 23 (.tmp 77) (.tmp 78),0,none⟩,⟨some 80,.load 33 (.tmp 79),33,none⟩,⟨some 81,.fieldAddr 29 (.tmp 3) 2,0,none⟩,⟨some 82,.load 23 (.tmp 81),23,none⟩,⟨some 83,.move (.tmp 5),3,none⟩,⟨some 84,.indexAddr 23 (.tmp 82) (.tmp 83),0,none⟩,⟨some 85,.load 33 (.tmp 84),33,none⟩] [⟨some 86,.binOp .neq 33 (.tmp 80) (.tmp 85) 33,4,none⟩]) (.cond (.tmp 86) (.seq (.ops [oE 4 4]) (.ret)) (.skip)))) (q31c0)
@[simp] theorem ysq:type_of% (zaa q31c1.eq_1):=zaa rfl
def q31l0:zac:=.seq (.seq (.ops [oA 69 5 3,oD 70 29 2 2 0,oC 71 23 70 23,oF 72 71 23 3,oL 73 3 69 72 3 4]) (.cond (.tmp 73) (.skip) (.exit 0))) (q31c1)
@[simp] theorem ysr:type_of% (zaa q31l0.eq_1):=zaa rfl
def q31c2:zac:=.ops [oA 92 6 3,oJ 93 3 92 1 3 3,oB 6 93 3]
@[simp] theorem yss:type_of% (zaa q31c2.eq_1):=zaa rfl
def q31c3:zac:=.seq (.block 3 (.seq (.draw [] [⟨some 94,.fieldAddr 29 (.tmp 2) 5,0,none⟩,⟨some 95,.load 25 (.tmp 94),25,none⟩,⟨some 96,.move (.tmp 6),3,none⟩,⟨some 97,.indexAddr 25 (.tmp 95) (.tmp 96),0,none⟩,⟨some 98,.load 97 (.tmp 97),97,none⟩,⟨some 99,.fieldAddr 29 (.tmp 3) 5,0,none⟩,⟨some 100,.load 25 (.tmp 99),25,none⟩,⟨some 101,.move (.tmp 6),3,none⟩,⟨some 102,.indexAddr 25 (.tmp 100) (.tmp 101),0,none⟩,⟨some 103,.load 97 (.tmp 102),97,none⟩] [⟨some 104,.binOp .neq 97 (.tmp 98) (.tmp 103) 97,4,none⟩]) (.cond (.tmp 104) (.seq (.ops [oE 4 4]) (.ret)) (.skip)))) (q31c2)
@[simp] theorem yst:type_of% (zaa q31c3.eq_1):=zaa rfl
def q31l1:zac:=.seq (.seq (.ops [oA 87 6 3,oD 88 29 2 5 0,oC 89 25 88 25,oF 90 89 25 3,oL 91 3 87 90 3 4]) (.cond (.tmp 91) (.skip) (.exit 2))) (q31c3)
@[simp] theorem ysu:type_of% (zaa q31l1.eq_1):=zaa rfl
def q31c4:zac:=.ops [oA 110 7 3,oJ 111 3 110 1 3 3,oB 7 111 3]
@[simp] theorem ysv:type_of% (zaa q31c4.eq_1):=zaa rfl
def q31c5:zac:=.seq (.block 5 (.seq (.draw [] [⟨some 112,.fieldAddr 29 (.tmp 2) 6,0,none⟩,⟨some 113,.load 26 (.tmp 112),26,none⟩,⟨some 114,.move (.tmp 7),3,none⟩,⟨some 115,.indexAddr 26 (.tmp 113) (.tmp 114),0,none⟩,⟨some 116,.load 35 (.tmp 115),35,none⟩,⟨some 117,.fieldAddr 29 (.tmp 3) 6,0,none⟩,⟨some 118,.load 26 (.tmp 117),26,none⟩,⟨some 119,.move (.tmp 7),3,none⟩,⟨some 120,.indexAddr 26 (.tmp 118) (.tmp 119),0,none⟩,⟨some 121,.load 35 (.tmp 120),35,none⟩] [⟨some 122,.binOp .neq 35 (.tmp 116) (.tmp 121) 35,4,none⟩]) (.cond (.tmp 122) (.seq (.ops [oE 4 4]) (.ret)) (.skip)))) (q31c4)
@[simp] theorem ysw:type_of% (zaa q31c5.eq_1):=zaa rfl
def q31l2:zac:=.seq (.seq (.ops [oA 105 7 3,oD 106 29 2 6 0,oC 107 26 106 26,oF 108 107 26 3,oL 109 3 105 108 3 4]) (.cond (.tmp 109) (.skip) (.exit 4))) (q31c5)
@[simp] theorem ysx:type_of% (zaa q31l2.eq_1):=zaa rfl
def q31c6:zac:=.seq (.ops [oAB 4 4]) (.ret)
@[simp] theorem ysy:type_of% (zaa q31c6.eq_1):=zaa rfl
def q31c7:zac:=.seq (.seq (.ops [oH 7 0 3]) (.block 4 (.loop q31l2))) (q31c6)
@[simp] theorem z8a:type_of% (zaa q31c7.eq_1):=zaa rfl
def q31c8:zac:=.seq (.seq (.ops [oH 6 0 3]) (.block 2 (.loop q31l1))) (q31c7)
@[simp] theorem z8b:type_of% (zaa q31c8.eq_1):=zaa rfl
def q31c9:zac:=.seq (.seq (.ops [oH 5 0 3]) (.block 0 (.loop q31l0))) (q31c8)
@[simp] theorem ydl:type_of% (zaa q31c9.eq_1):=zaa rfl
def q31c10:zac:=.seq (.seq (.ops [oD 44 29 2 2 0,oC 45 23 44 23,oF 46 45 23 3,oD 47 29 3 2 0,oC 48 23 47 23,oF 49 48 23 3,⟨some 50,.binOp .neq 3 (.tmp 46) (.tmp 49) 3,4,none⟩,oA 51 50 4,oAA 52 29 2 5 0 51,oX 53 25 52 25 51,oAM 54 53 25 3 51,oAA 55 29 3 5 0 51,oX 56 25 55 25 51,oAM 57 56 25 3 51,⟨some 58,.binOp .neq 3 (.tmp 54) (.tmp 57) 3,4,some (51,false)⟩,oQ 59 51 58 4,oA 60 59 4,oAA 61 29 2 6 0 60,oX 62 26 61 26 60,oAM 63 62 26 3 60,oAA 64 29 3 6 0 60,oX 65 26 64 26 60,oAM 66 65 26 3 60,⟨some 67,.binOp .neq 3 (.tmp 63) (.tmp 66) 3,4,some (60,false)⟩,oQ 68 60 67 4]) (.cond (.tmp 68) (.seq (.ops [oE 4 4]) (.ret)) (.skip))) (q31c9)
@[simp] theorem yhh:type_of% (zaa q31c10.eq_1):=zaa rfl
@[simp] def q31:QFn:=⟨123,[(.tmp 4,4)],.seq (.ops [oZ 2 29 0 0,oZ 3 29 1 0,oE 4 4]) (.seq (.seq (.ops [oD 8 29 2 0 0,oC 9 9 8 9,oD 10 29 3 0 0,oC 11 9 10 9,⟨some 12,.binOp .neq 9 (.tmp 9) (.tmp 11) 9,4,none⟩,oA 13 12 4,oAA 14 29 2 1 0 13,oX 15 9 14 9 13,oAA 16 29 3 1 0 13,oX 17 9 16 9 13,⟨some 18,.binOp .neq 9 (.tmp 15) (.tmp 17) 9,4,some (13,false)⟩,oQ 19 13 18 4,oA 20 19 4,oAA 21 29 2 3 0 20,oX 22 24 21 24 20,oAA 23 29 3 3 0 20,oX 24 24 23 24 20,⟨some 25,.call {callee:=.value (.func 76),args:=#[.tmp 22,.tmp 24],argTypes:=#[24,24]},4,some (20,false)⟩,⟨some 26,.unOp .not 4 (.tmp 25),4,some (20,false)⟩,oQ 27 20 26 4,oA 28 27 4,oAA 29 29 2 4 0 28,oX 30 24 29 24 28,oAA 31 29 3 4 0 28,oX 32 24 31 24 28,⟨some 33,.call {callee:=.value (.func 76),args:=#[.tmp 30,.tmp 32],argTypes:=#[24,24]},4,some (28,false)⟩,⟨some 34,.unOp .not 4 (.tmp 33),4,some (28,false)⟩,oQ 35 28 34 4,oA 36 35 4,oAA 37 29 2 7 0 36,oX 38 27 37 27 36,oAA 39 29 3 7 0 36,oX 40 27 39 27 36,⟨some 41,.call {callee:=.value (.func 16),args:=#[.tmp 38,.tmp 40],argTypes:=#[27,27]},4,some (36,false)⟩,⟨some 42,.unOp .not 4 (.tmp 41),4,some (36,false)⟩,oQ 43 36 42 4]) (.cond (.tmp 43) (.seq (.ops [oE 4 4]) (.ret)) (.skip))) (q31c10))⟩
theorem Cv31:zao Tryz.f31=some q31:=by kernel_rfl
abbrev Fn32:FuncId:=32
@[simp] def q32:QFn:=⟨11,[(.tmp 2,9)],.seq (.ops [oN 2 9]) (.seq (.ops [oA 4 0 22,oI 5 34 4 22 58,oB 3 5 58]) (.seq (.ops [oA 6 3 58,oA 7 3 58,⟨some 8,.call {callee:=.value (.func 78),args:=#[.tmp 7,.const (.string {data:=#[111,110,101]})],argTypes:=#[58,9]},29,none⟩,oI 9 25 8 29 9,oT 10 77 6 9 58 9 9,oB 2 10 9]) (.ret)))⟩
theorem Cv32:zao Tryz.f32=some q32:=by kernel_rfl
abbrev Fn33:FuncId:=33
def q33c0:zac:=.seq (.ops [oC 84 29 3 29,oG 29 2 84 0]) (.ret)
@[simp] theorem ysz:type_of% (zaa q33c0.eq_1):=zaa rfl
@[simp] def q33:QFn:=⟨85,[(.cell 2 29,29)],.seq (.ops [oP 2 29 0]) (.seq (.ops [oA 4 0 58,oA 5 0 58,⟨some 6,.buildSlice 27 3 #[(0,.const (.string {data:=#[111,110,101]})),(1,.const (.string {data:=#[116,119,111]})),(2,.const (.string {data:=#[122,105,112]}))],27,none⟩,oT 7 79 5 6 58 27 9,oT 8 78 4 7 58 9 29,oP 3 29 0,oG 29 3 8 0]) (.seq (.seq (.ops [oA 9 0 58,oAG 10 80 9 16 58 3 3]) (.block 0 (.seq (.ops [oW 12 3 10 0 3 4,oB 11 12 4]) (.cond (.tmp 11) (.ops [oA 13 0 58,⟨some 14,.buildSlice 27 3 #[(0,.const (.string {data:=#[]})),(1,.const (.string {data:=#[57]})),(2,.const (.string {data:=#[101,108,101,118,101,110,108,101,116,116,101]}))],27,none⟩,oT 15 79 13 14 58 27 9,oD 16 29 3 0 0,oG 9 16 15 0]) (.seq (.ops [oW 18 3 10 1 3 4,oB 17 18 4]) (.cond (.tmp 17) (.ops [oA 19 0 58,oI 20 81 19 58 9,oD 21 29 3 1 0,oG 9 21 20 0]) (.seq (.ops [oW 23 3 10 2 3 4,oB 22 23 4]) (.cond (.tmp 22) (.draw [0,0] [⟨some 24,.fieldAddr 29 (.tmp 3) 2,0,none⟩,⟨some 25,.load 23 (.tmp 24),23,none⟩,⟨some 26,.move (.tmp 0),58,none⟩,⟨some 27,.buildSlice 27 3 #[(0,.const (.string {data:=#[110,97,109,101]})),(1,.const (.string {data:=#[100,105,114]})),(2,.const (.string {data:=#[122]}))],27,none⟩,⟨some 28,.call {callee:=.value (.func 79),args:=#[.tmp 26,.tmp 27],argTypes:=#[58,27]},9,none⟩,⟨some 29,.move (.tmp 0),58,none⟩,⟨some 30,.buildSlice 27 3 #[(0,.const (.string {data:=#[36,123,122,125]})),(1,.const (.string {data:=#[113]})),(2,.const (.string {data:=#[]}))],27,none⟩,⟨some 31,.call {callee:=.value (.func 79),args:=#[.tmp 29,.tmp 30],argTypes:=#[58,27]},9,none⟩,⟨some 32,.build 33 #[(0,.tmp 28),(1,.tmp 31)],33,none⟩,⟨some 33,.buildSlice 23 1 #[(0,.tmp 32)],23,none⟩] [⟨some 34,.call {callee:=.builtin .append,args:=#[.tmp 25,.tmp 33],argTypes:=#[23,23]},23,none⟩,⟨some 35,.fieldAddr 29 (.tmp 3) 2,0,none⟩,⟨none,.store 23 (.tmp 35) (.tmp 34),0,none⟩]) (.seq (.ops [oW 37 3 10 3 3 4,oB 36 37 4]) (.cond (.tmp 36) (.draw [0] [⟨some 38,.fieldAddr 29 (.tmp 3) 7,0,none⟩,⟨some 39,.load 27 (.tmp 38),27,none⟩,⟨some 40,.move (.tmp 0),58,none⟩,⟨some 41,.buildSlice 27 4 #[(0,.const (.string {data:=#[36,123,110,111,110,101,125]})),(1,.const (.string {data:=#[]})),(2,.const (.string {data:=#[1]})),(3,.const (.string {data:=#[100,114,111,112,32,36,123,100,105,114,125]}))],27,none⟩,⟨some 42,.call {callee:=.value (.func 79),args:=#[.tmp 40,.tmp 41],argTypes:=#[58,27]},9,none⟩,⟨some 43,.buildSlice 27 1 #[(0,.tmp 42)],27,none⟩] [⟨some 44,.call {callee:=.builtin .append,args:=#[.tmp 39,.tmp 43],argTypes:=#[27,27]},27,none⟩,⟨some 45,.fieldAddr 29 (.tmp 3) 7,0,none⟩,⟨none,.store 27 (.tmp 45) (.tmp 44),0,none⟩]) (.seq (.ops [oW 47 3 10 4 3 4,oB 46 47 4]) (.cond (.tmp 46) (.draw [0,0] [⟨some 48,.fieldAddr 29 (.tmp 3) 4,0,none⟩,⟨some 49,.load 24 (.tmp 48),24,none⟩,⟨some 50,.move (.tmp 0),58,none⟩,⟨some 51,.call {callee:=.value (.func 82),args:=#[.tmp 50],argTypes:=#[58]},94,none⟩,⟨some 52,.move (.tmp 0),58,none⟩,⟨some 53,.call {callee:=.value (.func 83),args:=#[.tmp 52],argTypes:=#[58]},94,none⟩,⟨some 54,.buildSlice 24 2 #[(0,.tmp 51),(1,.tmp 53)],24,none⟩] [⟨some 55,.call {callee:=.builtin .append,args:=#[.tmp 49,.tmp 54],argTypes:=#[24,24]},24,none⟩,⟨some 56,.fieldAddr 29 (.tmp 3) 4,0,none⟩,⟨none,.store 24 (.tmp 56) (.tmp 55),0,none⟩]) (.seq (.ops [oW 58 3 10 5 3 4,oB 57 58 4]) (.cond (.tmp 57) (.draw [0,0] [⟨some 59,.fieldAddr 29 (.tmp 3) 5,0,none⟩,⟨some 60,.load 25 (.tmp 59),25,none⟩,⟨some 61,.move (.tmp 0),58,none⟩,⟨some 62,.buildSlice 27 2 #[(0,.const (.string {data:=#[115,114,99]})),(1,.const (.string {data:=#[]}))],27,none⟩,⟨some 63,.call {callee:=.value (.func 79),args:=#[.tmp 61,.tmp 62],argTypes:=#[58,27]},9,none⟩,⟨some 64,.move (.tmp 0),58,none⟩,⟨some 65,.buildSlice 27 2 #[(0,.const (.string {data:=#[]})),(1,.const (.string {data:=#[48,49,50,51,52,53,54,55,56,57,97,98,99,100,101,102]}))],27,none⟩,⟨some 66,.call {callee:=.value (.func 79),args:=#[.tmp 64,.tmp 65],argTypes:=#[58,27]},9,none⟩,⟨some 67,.build 97 #[(0,.tmp 63),(1,.tmp 66)],97,none⟩,⟨some 68,.buildSlice 25 1 #[(0,.tmp 67)],25,none⟩] [⟨some 69,.call {callee:=.builtin .append,args:=#[.tmp 60,.tmp 68],argTypes:=#[25,25]},25,none⟩,⟨some 70,.fieldAddr 29 (.tmp 3) 5,0,none⟩,⟨none,.store 25 (.tmp 70) (.tmp 69),0,none⟩]) (.seq (.ops [oW 72 3 10 6 3 4,oB 71 72 4]) (.cond (.tmp 71) (.draw [0,0] [⟨some 73,.fieldAddr 29 (.tmp 3) 6,0,none⟩,⟨some 74,.load 26 (.tmp 73),26,none⟩,⟨some 75,.move (.tmp 0),58,none⟩,⟨some 76,.buildSlice 27 3 #[(0,.const (.string {data:=#[111,110,101]})),(1,.const (.string {data:=#[112]})),(2,.const (.string {data:=#[]}))],27,none⟩,⟨some 77,.call {callee:=.value (.func 79),args:=#[.tmp 75,.tmp 76],argTypes:=#[58,27]},9,none⟩,⟨some 78,.move (.tmp 0),58,none⟩,⟨some 79,.call {callee:=.value (.func 84),args:=#[.tmp 78],argTypes:=#[58]},9,none⟩,⟨some 80,.build 35 #[(0,.tmp 77),(1,.tmp 79)],35,none⟩,⟨some 81,.buildSlice 26 1 #[(0,.tmp 80)],26,none⟩] [⟨some 82,.call {callee:=.builtin .append,args:=#[.tmp 74,.tmp 81],argTypes:=#[26,26]},26,none⟩,⟨some 83,.fieldAddr 29 (.tmp 3) 6,0,none⟩,⟨none,.store 26 (.tmp 83) (.tmp 82),0,none⟩]) (.skip))))))))))))))))) (q33c0)))⟩
theorem Cv33:zao Tryz.f33=some q33:=by kernel_rfl
abbrev Fn35:FuncId:=35
def q35c0:zac:=.seq (.ops [oD 36 29 1 2 0,oC 37 23 36 23,⟨some 38,.call {callee:=.value (.func 87),args:=#[.tmp 37,.func 88],argTypes:=#[23,115]},4,none⟩,oA 39 38 4,oAI 40 29 1 3 0 39,oAD 41 24 40 24 39,oAX 42 89 41 90 24 117 4 39,oR 43 39 42 4,oA 44 43 4,oAI 45 29 1 4 0 44,oAD 46 24 45 24 44,oAX 47 89 46 90 24 117 4 44,oR 48 44 47 4,oA 49 48 4,oAI 50 29 1 5 0 49,oAD 51 25 50 25 49,oAX 52 91 51 92 25 119 4 49,oR 53 49 52 4,oA 54 53 4,oAI 55 29 1 6 0 54,oAD 56 26 55 26 54,oAX 57 93 56 94 26 121 4 54,oR 58 54 57 4,oA 59 58 4,oAI 60 29 1 7 0 59,oAD 61 27 60 27 59,oAX 62 95 61 96 27 54 4 59,oR 63 59 62 4,oB 2 63 4]) (.ret)
@[simp] theorem ys0:type_of% (zaa q35c0.eq_1):=zaa rfl
def q35c1:zac:=.seq (.seq (.ops [oD 19 29 1 2 0,oC 20 23 19 23,oF 21 20 23 3,oD 22 29 1 3 0,oC 23 24 22 24,oF 24 23 24 3,oD 25 29 1 4 0,oC 26 24 25 24,oF 27 26 24 3,oD 28 29 1 5 0,oC 29 25 28 25,oF 30 29 25 3,oD 31 29 1 6 0,oC 32 26 31 26,oF 33 32 26 3,⟨some 34,.call {callee:=.builtin .max,args:=#[.tmp 21,.tmp 24,.tmp 27,.tmp 30,.tmp 33],argTypes:=#[3,3,3,3,3]},3,none⟩,oAL 35 3 34 6 3 4]) (.cond (.tmp 35) (.seq (.ops [oE 2 4]) (.ret)) (.skip))) (q35c0)
@[simp] theorem ys1:type_of% (zaa q35c1.eq_1):=zaa rfl
@[simp] def q35:QFn:=⟨64,[(.tmp 2,4)],.seq (.ops [oZ 1 29 0 0,oE 2 4]) (.seq (.seq (.ops [oD 3 29 1 0 0,oC 4 9 3 9,oI 5 85 4 9 4,oU 6 4 5 4,oA 7 6 4,oAA 8 29 1 1 0 7,oX 9 9 8 9 7,oAN 10 86 9 9 4 7,⟨some 11,.unOp .not 4 (.tmp 10),4,some (7,false)⟩,oQ 12 7 11 4,oA 13 12 4,oAA 14 29 1 7 0 13,oX 15 27 14 27 13,oAM 16 15 27 3 13,⟨some 17,.binOp .gtr 3 (.tmp 16) (.const (.int .i64 10)) 3,4,some (13,false)⟩,oQ 18 13 17 4]) (.cond (.tmp 18) (.seq (.ops [oE 2 4]) (.ret)) (.skip))) (q35c1))⟩
theorem Cv35:zao Tryz.f35=some q35:=by kernel_rfl
abbrev Fn36:FuncId:=36
@[simp] def q36:QFn:=⟨39,[(.tmp 2,4)],.seq (.ops [oZ 1 29 0 0,oE 2 4]) (.seq (.ops [⟨some 3,.assign (.func 97),123,none⟩]) (.seq (.ops [⟨some 4,.assign (.func 98),124,none⟩]) (.seq (.ops [⟨some 5,.assign (.func 99),125,none⟩]) (.seq (.ops [oD 6 29 1 2 0,oC 7 23 6 23,oA 8 3 123,⟨some 9,.buildSlice 27 2 #[(0,.const (.string {data:=#[110,97,109,101]})),(1,.const (.string {data:=#[118,101,114,115,105,111,110]}))],27,none⟩,⟨some 10,.call {callee:=.value (.func 100),args:=#[.tmp 7,.tmp 8,.tmp 9],argTypes:=#[23,123,27]},4,none⟩,oA 11 10 4,oAA 12 29 1 3 0 11,oX 13 24 12 24 11,⟨some 14,.call {callee:=.value (.func 101),args:=#[.tmp 13,.func 102,.const (.slice none 0 0)],argTypes:=#[24,95,27]},4,some (11,false)⟩,oQ 15 11 14 4,oA 16 15 4,oAA 17 29 1 4 0 16,oX 18 24 17 24 16,oAA 19 29 1 0 0 16,oX 20 9 19 9 16,⟨some 21,.buildSlice 27 1 #[(0,.tmp 20)],27,some (16,false)⟩,⟨some 22,.call {callee:=.value (.func 101),args:=#[.tmp 18,.func 102,.tmp 21],argTypes:=#[24,95,27]},4,some (16,false)⟩,oQ 23 16 22 4,oA 24 23 4,oAA 25 29 1 5 0 24,oX 26 25 25 25 24,oK 27 4 124 24,⟨some 28,.call {callee:=.value (.func 103),args:=#[.tmp 26,.tmp 27,.const (.slice none 0 0)],argTypes:=#[25,124,27]},4,some (24,false)⟩,oQ 29 24 28 4,oA 30 29 4,oAA 31 29 1 6 0 30,oX 32 26 31 26 30,oK 33 5 125 30,oAA 34 29 1 0 0 30,oX 35 9 34 9 30,⟨some 36,.buildSlice 27 1 #[(0,.tmp 35)],27,some (30,false)⟩,⟨some 37,.call {callee:=.value (.func 104),args:=#[.tmp 32,.tmp 33,.tmp 36],argTypes:=#[26,125,27]},4,some (30,false)⟩,oQ 38 30 37 4,oB 2 38 4]) (.ret)))))⟩
theorem Cv36:zao Tryz.f36=some q36:=by kernel_rfl
abbrev Fn37:FuncId:=37
def q37c0:zac:=.ops [oJ 34 3 18 1 3 3,oA 18 34 3]
@[simp] theorem ys2:type_of% (zaa q37c0.eq_1):=zaa rfl
def q37c1:zac:=.seq (.block 1 (.seq (.ops [oS 20 23 16 18 0,oC 21 33 20 33,oP 6 33 0,oG 33 6 21 0]) (.seq (.ops [oA 23 4 23,oD 24 33 6 0 0,oC 25 9 24 9,⟨some 26,.binOp .add 9 (.const (.string {data:=#[36,123]})) (.tmp 25) 9,9,none⟩,⟨some 27,.binOp .add 9 (.tmp 26) (.const (.string {data:=#[125]})) 9,9,none⟩,oT 28 106 23 27 23 9 63,oA 22 28 63,oM 29 22 0 9,oM 30 22 1 3,oB 7 29 9,oB 8 30 3]) (.seq (.ops [oA 31 8 3,oAS 32 3 31 0 3 4]) (.cond (.tmp 32) (.seq (.ops [oA 33 8 3,oAF 2 27,oB 3 33 3]) (.ret)) (.skip)))))) (q37c0)
@[simp] theorem ys3:type_of% (zaa q37c1.eq_1):=zaa rfl
def q37l0:zac:=.seq (.ops [oL 19 3 18 17 3 0]) (.seq (.cond (.tmp 19) (.skip) (.exit 0)) (q37c1))
@[simp] theorem ys4:type_of% (zaa q37l0.eq_1):=zaa rfl
def q37c2:zac:=.ops [oA 51 9 27,oA 52 12 9,oY 53 27 1 0 52 27,oV 54 51 53 27 27 27,oB 9 54 27]
@[simp] theorem ys5:type_of% (zaa q37c2.eq_1):=zaa rfl
def q37c3:zac:=.ops [oJ 55 3 38 1 3 3,oA 38 55 3]
@[simp] theorem ys6:type_of% (zaa q37c3.eq_1):=zaa rfl
def q37c4:zac:=.seq (.block 3 (.seq (.ops [oS 40 27 36 38 0,oC 41 9 40 9,oB 11 41 9]) (.seq (.ops [oA 43 4 23,oA 44 11 9,oT 45 106 43 44 23 9 63,oA 42 45 63,oM 46 42 0 9,oM 47 42 1 3,oB 12 46 9,oB 13 47 3]) (.seq (.seq (.ops [oA 48 13 3,oAS 49 3 48 0 3 4]) (.cond (.tmp 49) (.seq (.ops [oA 50 13 3,oAF 2 27,oB 3 50 3]) (.ret)) (.skip))) (q37c2))))) (q37c3)
@[simp] theorem ys7:type_of% (zaa q37c4.eq_1):=zaa rfl
def q37l1:zac:=.seq (.ops [oL 39 3 38 37 3 0]) (.seq (.cond (.tmp 39) (.skip) (.exit 2)) (q37c4))
@[simp] theorem ys8:type_of% (zaa q37l1.eq_1):=zaa rfl
def q37c5:zac:=.seq (.ops [oA 56 9 27,oB 2 56 27,oH 3 0 3]) (.ret)
@[simp] theorem ys9:type_of% (zaa q37c5.eq_1):=zaa rfl
def q37c6:zac:=.seq (.ops [oAF 9 27]) (.seq (.seq (.ops [oD 35 29 1 7 0,oC 36 27 35 27,oF 37 36 27 3,oAC 38 0 3]) (.block 2 (.loop q37l1))) (q37c5))
@[simp] theorem ydm:type_of% (zaa q37c6.eq_1):=zaa rfl
@[simp] def q37:QFn:=⟨57,[(.tmp 2,27),(.tmp 3,3)],.seq (.ops [oZ 1 29 0 0,oAF 2 27,oH 3 0 3]) (.seq (.ops [oC 14 29 1 29,oI 15 105 14 29 23,oB 4 15 23]) (.seq (.seq (.ops [oA 16 4 23,oF 17 16 23 3,oAC 18 0 3]) (.block 0 (.loop q37l0))) (q37c6)))⟩
theorem Cv37:zao Tryz.f37=some q37:=by kernel_rfl
abbrev Fn38:FuncId:=38
def q38c0:zac:=.ops [oA 12 3 3,oJ 13 3 12 1 3 3,oB 3 13 3]
@[simp] theorem yta:type_of% (zaa q38c0.eq_1):=zaa rfl
def q38c1:zac:=.seq (.block 1 (.seq (.ops [oD 14 29 1 5 0,oC 15 25 14 25,oA 16 3 3,oS 17 25 15 16 0,oD 18 97 17 0 0,oC 19 9 18 9,oI 20 107 19 9 4,oU 21 4 20 4,oA 22 21 4,oAA 23 29 1 5 0 22,oX 24 25 23 25 22,oK 25 3 3 22,⟨some 26,.indexAddr 25 (.tmp 24) (.tmp 25),0,some (22,false)⟩,oAA 27 97 26 1 0 22,oX 28 9 27 9 22,oAN 29 108 28 9 4 22,⟨some 30,.unOp .not 4 (.tmp 29),4,some (22,false)⟩,oQ 31 22 30 4]) (.cond (.tmp 31) (.seq (.ops [oE 2 4]) (.ret)) (.skip)))) (q38c0)
@[simp] theorem ytb:type_of% (zaa q38c1.eq_1):=zaa rfl
def q38l0:zac:=.seq (.seq (.ops [oA 7 3 3,oD 8 29 1 5 0,oC 9 25 8 25,oF 10 9 25 3,oL 11 3 7 10 3 4]) (.cond (.tmp 11) (.skip) (.exit 0))) (q38c1)
@[simp] theorem ytc:type_of% (zaa q38l0.eq_1):=zaa rfl
def q38c2:zac:=.ops [oA 37 4 3,oJ 38 3 37 1 3 3,oB 4 38 3]
@[simp] theorem ytd:type_of% (zaa q38c2.eq_1):=zaa rfl
def q38c3:zac:=.seq (.block 3 (.seq (.ops [oD 39 29 1 6 0,oC 40 26 39 26,oA 41 4 3,oS 42 26 40 41 0,oD 43 35 42 0 0,oC 44 9 43 9,oI 45 109 44 9 4,oU 46 4 45 4,oA 47 46 4,oAA 48 29 1 6 0 47,oX 49 26 48 26 47,oK 50 4 3 47,⟨some 51,.indexAddr 26 (.tmp 49) (.tmp 50),0,some (47,false)⟩,oAA 52 35 51 1 0 47,oX 53 9 52 9 47,oAN 54 110 53 9 4 47,⟨some 55,.unOp .not 4 (.tmp 54),4,some (47,false)⟩,oQ 56 47 55 4]) (.cond (.tmp 56) (.seq (.ops [oE 2 4]) (.ret)) (.skip)))) (q38c2)
@[simp] theorem yte:type_of% (zaa q38c3.eq_1):=zaa rfl
def q38l1:zac:=.seq (.seq (.ops [oA 32 4 3,oD 33 29 1 6 0,oC 34 26 33 26,oF 35 34 26 3,oL 36 3 32 35 3 4]) (.cond (.tmp 36) (.skip) (.exit 2))) (q38c3)
@[simp] theorem ytf:type_of% (zaa q38l1.eq_1):=zaa rfl
def q38c4:zac:=.ops [oA 62 5 3,oJ 63 3 62 1 3 3,oB 5 63 3]
@[simp] theorem ytg:type_of% (zaa q38c4.eq_1):=zaa rfl
def q38c5:zac:=.seq (.block 5 (.seq (.ops [oD 64 29 1 7 0,oC 65 27 64 27,oA 66 5 3,oS 67 27 65 66 0,oC 68 9 67 9,oI 69 111 68 9 4,oU 70 4 69 4]) (.cond (.tmp 70) (.seq (.ops [oE 2 4]) (.ret)) (.skip)))) (q38c4)
@[simp] theorem yth:type_of% (zaa q38c5.eq_1):=zaa rfl
def q38l2:zac:=.seq (.seq (.ops [oA 57 5 3,oD 58 29 1 7 0,oC 59 27 58 27,oF 60 59 27 3,oL 61 3 57 60 3 4]) (.cond (.tmp 61) (.skip) (.exit 4))) (q38c5)
@[simp] theorem yti:type_of% (zaa q38l2.eq_1):=zaa rfl
def q38c6:zac:=.seq (.ops [oD 71 29 1 2 0,oC 72 23 71 23,oF 73 72 23 3,⟨some 74,.binOp .leq 3 (.tmp 73) (.const (.int .i64 6)) 3,4,none⟩,oA 75 74 4,oAI 76 29 1 5 0 75,oAD 77 25 76 25 75,oAR 78 77 25 3 75,⟨some 79,.binOp .leq 3 (.tmp 78) (.const (.int .i64 6)) 3,4,some (75,true)⟩,oR 80 75 79 4,oA 81 80 4,oAI 82 29 1 6 0 81,oAD 83 26 82 26 81,oAR 84 83 26 3 81,⟨some 85,.binOp .leq 3 (.tmp 84) (.const (.int .i64 6)) 3,4,some (81,true)⟩,oR 86 81 85 4,oA 87 86 4,oAI 88 29 1 7 0 87,oAD 89 27 88 27 87,oAR 90 89 27 3 87,⟨some 91,.binOp .leq 3 (.tmp 90) (.const (.int .i64 10)) 3,4,some (87,true)⟩,oR 92 87 91 4,oB 6 92 4]) (.seq (.ops [oA 93 6 4,oA 94 93 4,oAI 95 29 1 0 0 94,oAD 96 9 95 9 94,oAO 97 109 96 9 4 94,oR 98 94 97 4,oA 99 98 4,oAI 100 29 1 1 0 99,oAD 101 9 100 9 99,oAO 102 112 101 9 4 99,oR 103 99 102 4,oA 104 103 4,oAI 105 29 1 2 0 104,oAD 106 23 105 23 104,oAO 107 113 106 23 4 104,oR 108 104 107 4,oA 109 108 4,oAI 110 29 1 3 0 109,oAD 111 24 110 24 109,oAO 112 114 111 24 4 109,oR 113 109 112 4,oA 114 113 4,oAI 115 29 1 4 0 114,oAD 116 24 115 24 114,oAO 117 114 116 24 4 114,oR 118 114 117 4,oB 2 118 4]) (.ret))
@[simp] theorem z8c:type_of% (zaa q38c6.eq_1):=zaa rfl
def q38c7:zac:=.seq (.seq (.ops [oH 5 0 3]) (.block 4 (.loop q38l2))) (q38c6)
@[simp] theorem z8d:type_of% (zaa q38c7.eq_1):=zaa rfl
def q38c8:zac:=.seq (.seq (.ops [oH 4 0 3]) (.block 2 (.loop q38l1))) (q38c7)
@[simp] theorem z8e:type_of% (zaa q38c8.eq_1):=zaa rfl
@[simp] def q38:QFn:=⟨119,[(.tmp 2,4)],.seq (.ops [oZ 1 29 0 0,oE 2 4]) (.seq (.seq (.ops [oH 3 0 3]) (.block 0 (.loop q38l0))) (q38c8))⟩
theorem Cv38:zao Tryz.f38=some q38:=by kernel_rfl
abbrev Fn39:FuncId:=39
def q39c0:zac:=.ops [oA 19 4 3,oJ 20 3 19 1 3 3,oB 4 20 3]
@[simp] theorem ytj:type_of% (zaa q39c0.eq_1):=zaa rfl
def q39c1:zac:=.seq (.block 1 (.ops [oA 21 3 27,oD 22 29 1 2 0,oC 23 23 22 23,oA 24 4 3,oS 25 23 23 24 0,oD 26 33 25 0 0,oC 27 9 26 9,oY 28 27 1 0 27 27,oV 29 21 28 27 27 27,oB 3 29 27])) (q39c0)
@[simp] theorem ytk:type_of% (zaa q39c1.eq_1):=zaa rfl
def q39l0:zac:=.seq (.seq (.ops [oA 14 4 3,oD 15 29 1 2 0,oC 16 23 15 23,oF 17 16 23 3,oL 18 3 14 17 3 4]) (.cond (.tmp 18) (.skip) (.exit 0))) (q39c1)
@[simp] theorem ytl:type_of% (zaa q39l0.eq_1):=zaa rfl
def q39c2:zac:=.ops [oA 36 6 3,oJ 37 3 36 1 3 3,oB 6 37 3]
@[simp] theorem ytm:type_of% (zaa q39c2.eq_1):=zaa rfl
def q39c3:zac:=.seq (.block 3 (.ops [oA 38 5 27,oD 39 29 1 3 0,oC 40 24 39 24,oA 41 6 3,oS 42 24 40 41 0,oD 43 94 42 0 0,oC 44 9 43 9,oY 45 27 1 0 44 27,oV 46 38 45 27 27 27,oB 5 46 27])) (q39c2)
@[simp] theorem ytn:type_of% (zaa q39c3.eq_1):=zaa rfl
def q39l1:zac:=.seq (.seq (.ops [oA 31 6 3,oD 32 29 1 3 0,oC 33 24 32 24,oF 34 33 24 3,oL 35 3 31 34 3 4]) (.cond (.tmp 35) (.skip) (.exit 2))) (q39c3)
@[simp] theorem yto:type_of% (zaa q39l1.eq_1):=zaa rfl
def q39c4:zac:=.ops [oA 55 8 3,oJ 56 3 55 1 3 3,oB 8 56 3]
@[simp] theorem ytp:type_of% (zaa q39c4.eq_1):=zaa rfl
def q39c5:zac:=.seq (.block 5 (.ops [oA 57 7 27,oD 58 29 1 4 0,oC 59 24 58 24,oA 60 8 3,oS 61 24 59 60 0,oD 62 94 61 0 0,oC 63 9 62 9,oY 64 27 1 0 63 27,oV 65 57 64 27 27 27,oB 7 65 27])) (q39c4)
@[simp] theorem ytq:type_of% (zaa q39c5.eq_1):=zaa rfl
def q39l2:zac:=.seq (.seq (.ops [oA 50 8 3,oD 51 29 1 4 0,oC 52 24 51 24,oF 53 52 24 3,oL 54 3 50 53 3 4]) (.cond (.tmp 54) (.skip) (.exit 4))) (q39c5)
@[simp] theorem ytr:type_of% (zaa q39l2.eq_1):=zaa rfl
def q39c6:zac:=.ops [oA 72 10 3,oJ 73 3 72 1 3 3,oB 10 73 3]
@[simp] theorem yts:type_of% (zaa q39c6.eq_1):=zaa rfl
def q39c7:zac:=.seq (.block 7 (.ops [oA 74 9 27,oD 75 29 1 5 0,oC 76 25 75 25,oA 77 10 3,oS 78 25 76 77 0,oD 79 97 78 0 0,oC 80 9 79 9,oY 81 27 1 0 80 27,oV 82 74 81 27 27 27,oB 9 82 27])) (q39c6)
@[simp] theorem ytt:type_of% (zaa q39c7.eq_1):=zaa rfl
def q39l3:zac:=.seq (.seq (.ops [oA 67 10 3,oD 68 29 1 5 0,oC 69 25 68 25,oF 70 69 25 3,oL 71 3 67 70 3 4]) (.cond (.tmp 71) (.skip) (.exit 6))) (q39c7)
@[simp] theorem ytu:type_of% (zaa q39l3.eq_1):=zaa rfl
def q39c8:zac:=.ops [oA 91 12 3,oJ 92 3 91 1 3 3,oB 12 92 3]
@[simp] theorem ytv:type_of% (zaa q39c8.eq_1):=zaa rfl
def q39c9:zac:=.seq (.block 9 (.ops [oA 93 11 27,oD 94 29 1 6 0,oC 95 26 94 26,oA 96 12 3,oS 97 26 95 96 0,oD 98 35 97 0 0,oC 99 9 98 9,oY 100 27 1 0 99 27,oV 101 93 100 27 27 27,oB 11 101 27])) (q39c8)
@[simp] theorem ytw:type_of% (zaa q39c9.eq_1):=zaa rfl
def q39l4:zac:=.seq (.seq (.ops [oA 86 12 3,oD 87 29 1 6 0,oC 88 26 87 26,oF 89 88 26 3,oL 90 3 86 89 3 4]) (.cond (.tmp 90) (.skip) (.exit 8))) (q39c9)
@[simp] theorem ytx:type_of% (zaa q39l4.eq_1):=zaa rfl
def q39c10:zac:=.seq (.ops [oA 102 3 27,oI 103 115 102 27 4,oA 104 103 4,oK 105 5 27 104,oAN 106 115 105 27 4 104,oQ 107 104 106 4,oA 108 107 4,oK 109 7 27 108,oAN 110 115 109 27 4 108,oQ 111 108 110 4,oA 112 111 4,oK 113 9 27 112,oAN 114 115 113 27 4 112,oQ 115 112 114 4,oA 116 115 4,oK 117 11 27 116,oAN 118 115 117 27 4 116,oQ 119 116 118 4,oB 2 119 4]) (.ret)
@[simp] theorem z9o:type_of% (zaa q39c10.eq_1):=zaa rfl
def q39c11:zac:=.seq (.ops [oD 83 29 1 0 0,oC 84 9 83 9,oY 85 27 1 0 84 27,oB 11 85 27]) (.seq (.seq (.ops [oH 12 0 3]) (.block 8 (.loop q39l4))) (q39c10))
@[simp] theorem z9p:type_of% (zaa q39c11.eq_1):=zaa rfl
def q39c12:zac:=.seq (.ops [⟨some 66,.buildSlice 27 0 #[],27,none⟩,oB 9 66 27]) (.seq (.seq (.ops [oH 10 0 3]) (.block 6 (.loop q39l3))) (q39c11))
@[simp] theorem z9q:type_of% (zaa q39c12.eq_1):=zaa rfl
def q39c13:zac:=.seq (.ops [oD 47 29 1 0 0,oC 48 9 47 9,oY 49 27 1 0 48 27,oB 7 49 27]) (.seq (.seq (.ops [oH 8 0 3]) (.block 4 (.loop q39l2))) (q39c12))
@[simp] theorem z9r:type_of% (zaa q39c13.eq_1):=zaa rfl
def q39c14:zac:=.seq (.ops [⟨some 30,.buildSlice 27 0 #[],27,none⟩,oB 5 30 27]) (.seq (.seq (.ops [oH 6 0 3]) (.block 2 (.loop q39l1))) (q39c13))
@[simp] theorem z9s:type_of% (zaa q39c14.eq_1):=zaa rfl
@[simp] def q39:QFn:=⟨120,[(.tmp 2,4)],.seq (.ops [oZ 1 29 0 0,oE 2 4]) (.seq (.ops [⟨some 13,.buildSlice 27 2 #[(0,.const (.string {data:=#[110,97,109,101]})),(1,.const (.string {data:=#[118,101,114,115,105,111,110]}))],27,none⟩,oB 3 13 27]) (.seq (.seq (.ops [oH 4 0 3]) (.block 0 (.loop q39l0))) (q39c14)))⟩
theorem Cv39:zao Tryz.f39=some q39:=by kernel_rfl
abbrev Fn40:FuncId:=40
def q40c0:zac:=.ops [oA 51 13 3,oJ 52 3 51 1 3 3,oB 13 52 3]
@[simp] theorem yty:type_of% (zaa q40c0.eq_1):=zaa rfl
def q40c1:zac:=.seq (.block 4 (.seq (.ops [oA 53 2 27,oA 54 13 3,oS 55 27 53 54 0,oC 56 9 55 9,oA 57 9 9,⟨some 58,.binOp .eql 9 (.tmp 56) (.tmp 57) 9,4,none⟩]) (.cond (.tmp 58) (.seq (.ops [oN 6 9,oH 7 4 3]) (.ret)) (.skip)))) (q40c0)
@[simp] theorem ytz:type_of% (zaa q40c1.eq_1):=zaa rfl
def q40l0:zac:=.seq (.seq (.ops [oA 47 13 3,oA 48 2 27,oF 49 48 27 3,oL 50 3 47 49 3 4]) (.cond (.tmp 50) (.skip) (.exit 3))) (q40c1)
@[simp] theorem yt0:type_of% (zaa q40l0.eq_1):=zaa rfl
def q40c2:zac:=.seq (.ops [oA 78 8 9,oA 79 14 9,oAH 80 9 78 79 9 9,oB 8 80 9]) (.seq (.ops [oA 81 10 9,oB 1 81 9]) (.seq (.ops [oA 82 8 9,oF 83 82 9 3,oAL 84 3 83 80 3 4]) (.cond (.tmp 84) (.seq (.ops [oN 6 9,oH 7 5 3]) (.ret)) (.skip))))
@[simp] theorem yt1:type_of% (zaa q40c2.eq_1):=zaa rfl
def q40c3:zac:=.seq (.draw [0] [⟨some 60,.move (.tmp 0),23,none⟩,⟨some 61,.move (.tmp 0),23,none⟩,⟨some 62,.move (.tmp 12),3,none⟩,⟨some 63,.indexAddr 23 (.tmp 61) (.tmp 62),0,none⟩,⟨some 64,.fieldAddr 33 (.tmp 63) 1,0,none⟩,⟨some 65,.load 9 (.tmp 64),9,none⟩,⟨some 66,.buildSlice 27 0 #[],27,none⟩,⟨some 67,.move (.tmp 2),27,none⟩,⟨some 68,.call {callee:=.builtin .append,args:=#[.tmp 66,.tmp 67],argTypes:=#[27,27]},27,none⟩,⟨some 69,.move (.tmp 9),9,none⟩,⟨some 70,.buildSlice 27 1 #[(0,.tmp 69)],27,none⟩,⟨some 71,.call {callee:=.builtin .append,args:=#[.tmp 68,.tmp 70],argTypes:=#[27,27]},27,none⟩,⟨some 72,.call {callee:=.value (.func 40),args:=#[.tmp 60,.tmp 65,.tmp 71],argTypes:=#[23,9,27]},63,none⟩,⟨some 59,.move (.tmp 72),63,none⟩,⟨some 73,.extract (.tmp 59) 0,9,none⟩,⟨some 74,.extract (.tmp 59) 1,3,none⟩,⟨some 14,.assign (.tmp 73),9,none⟩] [⟨some 15,.assign (.tmp 74),3,none⟩]) (.seq (.seq (.ops [oA 75 15 3,oAS 76 3 75 0 3 4]) (.cond (.tmp 76) (.seq (.ops [oA 77 15 3,oN 6 9,oB 7 77 3]) (.ret)) (.skip))) (q40c2))
@[simp] theorem yt2:type_of% (zaa q40c3.eq_1):=zaa rfl
def q40c4:zac:=.seq (.seq (.ops [oH 13 0 3]) (.block 3 (.loop q40l0))) (q40c3)
@[simp] theorem yt3:type_of% (zaa q40c4.eq_1):=zaa rfl
def q40c5:zac:=.seq (.ops [oA 33 1 9,oI 34 116 33 9 134,oA 32 34 134,oM 35 32 0 9,oM 36 32 1 9,oM 37 32 2 4,oB 9 35 9,oB 10 36 9,oB 11 37 4]) (.seq (.ops [oA 38 0 23,oA 39 9 9,oT 40 117 38 39 23 9 3,oB 12 40 3]) (.seq (.block 2 (.seq (.ops [oA 42 11 4,oU 43 4 42 4,oB 41 43 4]) (.cond (.tmp 41) (.seq (.ops [oN 6 9,oH 7 1 3]) (.ret)) (.seq (.ops [oA 45 12 3,oAP 46 3 45 0 3 4,oB 44 46 4]) (.cond (.tmp 44) (.seq (.ops [oN 6 9,oH 7 3 3]) (.ret)) (.skip)))))) (q40c4)))
@[simp] theorem yt4:type_of% (zaa q40c5.eq_1):=zaa rfl
def q40c6:zac:=.block 1 (.seq (.seq (.ops [oA 18 1 9,oF 19 18 9 3,oAP 20 3 19 2 3 4,oA 21 20 4,oK 22 1 9 21,⟨some 23,.slice 9 (.tmp 22) none (some (.const (.int .i64 2))) none,9,some (21,false)⟩,⟨some 24,.binOp .neq 9 (.tmp 23) (.const (.string {data:=#[36,123]})) 9,4,some (21,false)⟩,oQ 25 21 24 4]) (.cond (.tmp 25) (.seq (.ops [oA 26 8 9,oA 27 1 9,⟨some 28,.slice 9 (.tmp 27) none (some (.const (.int .i64 1))) none,9,none⟩,oAH 29 9 26 28 9 9,oB 8 29 9]) (.seq (.ops [oA 30 1 9,⟨some 31,.slice 9 (.tmp 30) (some (.const (.int .i64 1))) none none,9,none⟩,oB 1 31 9]) (.exit 1))) (.skip))) (q40c5))
@[simp] theorem yt5:type_of% (zaa q40c6.eq_1):=zaa rfl
def q40l1:zac:=.seq (.seq (.ops [oA 16 1 9,⟨some 17,.binOp .neq 9 (.tmp 16) (.const (.string {data:=#[]})) 9,4,none⟩]) (.cond (.tmp 17) (.skip) (.exit 0))) (q40c6)
@[simp] theorem yt6:type_of% (zaa q40l1.eq_1):=zaa rfl
def q40c7:zac:=.seq (.ops [oA 88 8 9,oB 6 88 9,oH 7 0 3]) (.ret)
@[simp] theorem yt7:type_of% (zaa q40c7.eq_1):=zaa rfl
def q40c8:zac:=.seq (.seq (.ops [oA 85 8 9,oF 86 85 9 3,oAL 87 3 86 80 3 4]) (.cond (.tmp 87) (.seq (.ops [oN 6 9,oH 7 5 3]) (.ret)) (.skip))) (q40c7)
@[simp] theorem yt8:type_of% (zaa q40c8.eq_1):=zaa rfl
@[simp] def q40:QFn:=⟨89,[(.tmp 6,9),(.tmp 7,3)],.seq (.ops [oN 6 9,oH 7 0 3]) (.seq (.ops [oN 8 9]) (.seq (.block 0 (.loop q40l1)) (q40c8)))⟩
theorem Cv40:zao Tryz.f40=some q40:=by kernel_rfl
abbrev Fn41:FuncId:=41
@[simp] def q41:QFn:=⟨13,[(.tmp 2,23)],.seq (.ops [oZ 1 29 0 0,oAF 2 23]) (.seq (.ops [oD 3 29 1 0 0,oC 4 9 3 9,⟨some 5,.build 33 #[(0,.const (.string {data:=#[110,97,109,101]})),(1,.tmp 4)],33,none⟩,oD 6 29 1 1 0,oC 7 9 6 9,⟨some 8,.build 33 #[(0,.const (.string {data:=#[118,101,114,115,105,111,110]})),(1,.tmp 7)],33,none⟩,⟨some 9,.buildSlice 23 2 #[(0,.tmp 5),(1,.tmp 8)],23,none⟩,oD 10 29 1 2 0,oC 11 23 10 23,oV 12 9 11 23 23 23,oB 2 12 23]) (.ret))⟩
theorem Cv41:zao Tryz.f41=some q41:=by kernel_rfl
abbrev Fn61:FuncId:=61
def q61c0:zac:=.ops [oA 23 4 3,oJ 24 3 23 1 3 3,oB 4 24 3]
@[simp] theorem yt9:type_of% (zaa q61c0.eq_1):=zaa rfl
def q61c1:zac:=.seq (.block 1 (.draw [] [⟨some 25,.move (.tmp 3),9,none⟩,⟨some 26,.binOp .add 9 (.tmp 25) (.const (.string {data:=#[108,101,116,32]})) 9,9,none⟩,⟨some 27,.fieldAddr 29 (.tmp 1) 2,0,none⟩,⟨some 28,.load 23 (.tmp 27),23,none⟩,⟨some 29,.move (.tmp 4),3,none⟩,⟨some 30,.indexAddr 23 (.tmp 28) (.tmp 29),0,none⟩,⟨some 31,.fieldAddr 33 (.tmp 30) 0,0,none⟩,⟨some 32,.load 9 (.tmp 31),9,none⟩,⟨some 33,.binOp .add 9 (.tmp 26) (.tmp 32) 9,9,none⟩,⟨some 34,.binOp .add 9 (.tmp 33) (.const (.string {data:=#[32]})) 9,9,none⟩,⟨some 35,.fieldAddr 29 (.tmp 1) 2,0,none⟩,⟨some 36,.load 23 (.tmp 35),23,none⟩,⟨some 37,.move (.tmp 4),3,none⟩,⟨some 38,.indexAddr 23 (.tmp 36) (.tmp 37),0,none⟩,⟨some 39,.fieldAddr 33 (.tmp 38) 1,0,none⟩,⟨some 40,.load 9 (.tmp 39),9,none⟩] [⟨some 41,.binOp .add 9 (.tmp 34) (.tmp 40) 9,9,none⟩,⟨some 42,.binOp .add 9 (.tmp 41) (.const (.string {data:=#[10]})) 9,9,none⟩,⟨some 3,.assign (.tmp 42),9,none⟩])) (q61c0)
@[simp] theorem yua:type_of% (zaa q61c1.eq_1):=zaa rfl
def q61l0:zac:=.seq (.seq (.ops [oA 18 4 3,oD 19 29 1 2 0,oC 20 23 19 23,oF 21 20 23 3,oL 22 3 18 21 3 4]) (.cond (.tmp 22) (.skip) (.exit 0))) (q61c1)
@[simp] theorem yub:type_of% (zaa q61l0.eq_1):=zaa rfl
def q61c2:zac:=.ops [oA 48 5 3,oJ 49 3 48 1 3 3,oB 5 49 3]
@[simp] theorem yuc:type_of% (zaa q61c2.eq_1):=zaa rfl
def q61c3:zac:=.seq (.block 3 (.ops [oA 50 3 9,⟨some 51,.binOp .add 9 (.tmp 50) (.const (.string {data:=#[98,117,105,108,100,32]})) 9,9,none⟩,oD 52 29 1 3 0,oC 53 24 52 24,oA 54 5 3,oS 55 24 53 54 0,oC 56 94 55 94,oI 57 130 56 94 9,oAH 58 9 51 57 9 9,⟨some 59,.binOp .add 9 (.tmp 58) (.const (.string {data:=#[10]})) 9,9,none⟩,oB 3 59 9])) (q61c2)
@[simp] theorem yud:type_of% (zaa q61c3.eq_1):=zaa rfl
def q61l1:zac:=.seq (.seq (.ops [oA 43 5 3,oD 44 29 1 3 0,oC 45 24 44 24,oF 46 45 24 3,oL 47 3 43 46 3 4]) (.cond (.tmp 47) (.skip) (.exit 2))) (q61c3)
@[simp] theorem yue:type_of% (zaa q61l1.eq_1):=zaa rfl
def q61c4:zac:=.ops [oA 65 6 3,oJ 66 3 65 1 3 3,oB 6 66 3]
@[simp] theorem yuf:type_of% (zaa q61c4.eq_1):=zaa rfl
def q61c5:zac:=.seq (.block 5 (.ops [oA 67 3 9,⟨some 68,.binOp .add 9 (.tmp 67) (.const (.string {data:=#[114,117,110,32]})) 9,9,none⟩,oD 69 29 1 4 0,oC 70 24 69 24,oA 71 6 3,oS 72 24 70 71 0,oC 73 94 72 94,oI 74 130 73 94 9,oAH 75 9 68 74 9 9,⟨some 76,.binOp .add 9 (.tmp 75) (.const (.string {data:=#[10]})) 9,9,none⟩,oB 3 76 9])) (q61c4)
@[simp] theorem yug:type_of% (zaa q61c5.eq_1):=zaa rfl
def q61l2:zac:=.seq (.seq (.ops [oA 60 6 3,oD 61 29 1 4 0,oC 62 24 61 24,oF 63 62 24 3,oL 64 3 60 63 3 4]) (.cond (.tmp 64) (.skip) (.exit 4))) (q61c5)
@[simp] theorem yuh:type_of% (zaa q61l2.eq_1):=zaa rfl
def q61c6:zac:=.ops [oA 82 7 3,oJ 83 3 82 1 3 3,oB 7 83 3]
@[simp] theorem yui:type_of% (zaa q61c6.eq_1):=zaa rfl
def q61c7:zac:=.seq (.block 7 (.draw [] [⟨some 84,.move (.tmp 3),9,none⟩,⟨some 85,.binOp .add 9 (.tmp 84) (.const (.string {data:=#[115,111,117,114,99,101,32]})) 9,9,none⟩,⟨some 86,.fieldAddr 29 (.tmp 1) 5,0,none⟩,⟨some 87,.load 25 (.tmp 86),25,none⟩,⟨some 88,.move (.tmp 7),3,none⟩,⟨some 89,.indexAddr 25 (.tmp 87) (.tmp 88),0,none⟩,⟨some 90,.fieldAddr 97 (.tmp 89) 0,0,none⟩,⟨some 91,.load 9 (.tmp 90),9,none⟩,⟨some 92,.binOp .add 9 (.tmp 85) (.tmp 91) 9,9,none⟩,⟨some 93,.binOp .add 9 (.tmp 92) (.const (.string {data:=#[32]})) 9,9,none⟩,⟨some 94,.fieldAddr 29 (.tmp 1) 5,0,none⟩,⟨some 95,.load 25 (.tmp 94),25,none⟩,⟨some 96,.move (.tmp 7),3,none⟩,⟨some 97,.indexAddr 25 (.tmp 95) (.tmp 96),0,none⟩,⟨some 98,.fieldAddr 97 (.tmp 97) 1,0,none⟩,⟨some 99,.load 9 (.tmp 98),9,none⟩] [⟨some 100,.binOp .add 9 (.tmp 93) (.tmp 99) 9,9,none⟩,⟨some 101,.binOp .add 9 (.tmp 100) (.const (.string {data:=#[10]})) 9,9,none⟩,⟨some 3,.assign (.tmp 101),9,none⟩])) (q61c6)
@[simp] theorem yuj:type_of% (zaa q61c7.eq_1):=zaa rfl
def q61l3:zac:=.seq (.seq (.ops [oA 77 7 3,oD 78 29 1 5 0,oC 79 25 78 25,oF 80 79 25 3,oL 81 3 77 80 3 4]) (.cond (.tmp 81) (.skip) (.exit 6))) (q61c7)
@[simp] theorem yuk:type_of% (zaa q61l3.eq_1):=zaa rfl
def q61c8:zac:=.ops [oA 107 8 3,oJ 108 3 107 1 3 3,oB 8 108 3]
@[simp] theorem yul:type_of% (zaa q61c8.eq_1):=zaa rfl
def q61c9:zac:=.seq (.block 9 (.draw [] [⟨some 109,.move (.tmp 3),9,none⟩,⟨some 110,.binOp .add 9 (.tmp 109) (.const (.string {data:=#[112,105,101,99,101,32]})) 9,9,none⟩,⟨some 111,.fieldAddr 29 (.tmp 1) 6,0,none⟩,⟨some 112,.load 26 (.tmp 111),26,none⟩,⟨some 113,.move (.tmp 8),3,none⟩,⟨some 114,.indexAddr 26 (.tmp 112) (.tmp 113),0,none⟩,⟨some 115,.fieldAddr 35 (.tmp 114) 0,0,none⟩,⟨some 116,.load 9 (.tmp 115),9,none⟩,⟨some 117,.binOp .add 9 (.tmp 110) (.tmp 116) 9,9,none⟩,⟨some 118,.binOp .add 9 (.tmp 117) (.const (.string {data:=#[32]})) 9,9,none⟩,⟨some 119,.fieldAddr 29 (.tmp 1) 6,0,none⟩,⟨some 120,.load 26 (.tmp 119),26,none⟩,⟨some 121,.move (.tmp 8),3,none⟩,⟨some 122,.indexAddr 26 (.tmp 120) (.tmp 121),0,none⟩,⟨some 123,.fieldAddr 35 (.tmp 122) 1,0,none⟩,⟨some 124,.load 9 (.tmp 123),9,none⟩] [⟨some 125,.binOp .add 9 (.tmp 118) (.tmp 124) 9,9,none⟩,⟨some 126,.binOp .add 9 (.tmp 125) (.const (.string {data:=#[10]})) 9,9,none⟩,⟨some 3,.assign (.tmp 126),9,none⟩])) (q61c8)
@[simp] theorem yum:type_of% (zaa q61c9.eq_1):=zaa rfl
def q61l4:zac:=.seq (.seq (.ops [oA 102 8 3,oD 103 29 1 6 0,oC 104 26 103 26,oF 105 104 26 3,oL 106 3 102 105 3 4]) (.cond (.tmp 106) (.skip) (.exit 8))) (q61c9)
@[simp] theorem yun:type_of% (zaa q61l4.eq_1):=zaa rfl
def q61c10:zac:=.ops [oA 132 9 3,oJ 133 3 132 1 3 3,oB 9 133 3]
@[simp] theorem yhi:type_of% (zaa q61c10.eq_1):=zaa rfl
def q61c11:zac:=.seq (.block 11 (.ops [oA 134 3 9,⟨some 135,.binOp .add 9 (.tmp 134) (.const (.string {data:=#[115,116,101,112,32]})) 9,9,none⟩,oD 136 29 1 7 0,oC 137 27 136 27,oA 138 9 3,oS 139 27 137 138 0,oC 140 9 139 9,oAH 141 9 135 140 9 9,⟨some 142,.binOp .add 9 (.tmp 141) (.const (.string {data:=#[10]})) 9,9,none⟩,oB 3 142 9])) (q61c10)
@[simp] theorem yhj:type_of% (zaa q61c11.eq_1):=zaa rfl
def q61l5:zac:=.seq (.seq (.ops [oA 127 9 3,oD 128 29 1 7 0,oC 129 27 128 27,oF 130 129 27 3,oL 131 3 127 130 3 4]) (.cond (.tmp 131) (.skip) (.exit 10))) (q61c11)
@[simp] theorem yuo:type_of% (zaa q61l5.eq_1):=zaa rfl
def q61c12:zac:=.seq (.ops [oA 143 3 9,oB 2 143 9]) (.ret)
@[simp] theorem zvq:type_of% (zaa q61c12.eq_1):=zaa rfl
def q61c13:zac:=.seq (.seq (.ops [oH 9 0 3]) (.block 10 (.loop q61l5))) (q61c12)
@[simp] theorem z2d:type_of% (zaa q61c13.eq_1):=zaa rfl
def q61c14:zac:=.seq (.seq (.ops [oH 8 0 3]) (.block 8 (.loop q61l4))) (q61c13)
@[simp] theorem z2e:type_of% (zaa q61c14.eq_1):=zaa rfl
def q61c15:zac:=.seq (.seq (.ops [oH 7 0 3]) (.block 6 (.loop q61l3))) (q61c14)
@[simp] theorem z2f:type_of% (zaa q61c15.eq_1):=zaa rfl
def q61c16:zac:=.seq (.seq (.ops [oH 6 0 3]) (.block 4 (.loop q61l2))) (q61c15)
@[simp] theorem z2g:type_of% (zaa q61c16.eq_1):=zaa rfl
def q61c17:zac:=.seq (.seq (.ops [oH 5 0 3]) (.block 2 (.loop q61l1))) (q61c16)
@[simp] theorem z2h:type_of% (zaa q61c17.eq_1):=zaa rfl
@[simp] def q61:QFn:=⟨144,[(.tmp 2,9)],.seq (.ops [oZ 1 29 0 0,oN 2 9]) (.seq (.ops [oD 10 29 1 0 0,oC 11 9 10 9,⟨some 12,.binOp .add 9 (.const (.string {data:=#[110,97,109,101,32]})) (.tmp 11) 9,9,none⟩,⟨some 13,.binOp .add 9 (.tmp 12) (.const (.string {data:=#[10,118,101,114,115,105,111,110,32]})) 9,9,none⟩,oD 14 29 1 1 0,oC 15 9 14 9,oAH 16 9 13 15 9 9,⟨some 17,.binOp .add 9 (.tmp 16) (.const (.string {data:=#[10]})) 9,9,none⟩,oB 3 17 9]) (.seq (.seq (.ops [oH 4 0 3]) (.block 0 (.loop q61l0))) (q61c17)))⟩
theorem Cv61:zao Tryz.f61=some q61:=by kernel_rfl
abbrev Fn62:FuncId:=62
@[simp] def q62:QFn:=⟨7,[],.ops [oA 3 0 27,⟨some 4,.call {callee:=.value (.func 64),args:=#[.tmp 3,.const (.string {data:=#[32]})],argTypes:=#[27,9]},9,none⟩,⟨some 5,.binOp .add 9 (.tmp 4) (.const (.string {data:=#[10]})) 9,9,none⟩,oT 6 63 1 5 86 9 89]⟩
theorem Cv62:zao Tryz.f62=some q62:=by kernel_rfl
@[simp] def q63:QFn:=⟨19,[(.tmp 4,3),(.tmp 5,88)],.seq (.ops [oH 4 0 3,⟨some 5,.assign (.const .nilIface),88,none⟩]) (.seq (.ops [oA 6 0 84,oI 7 131 6 84 0]) (.seq (.ops [oA 8 0 84,oA 9 0 84,oAJ 10 9 0,oD 11 86 10 1 0,oC 12 22 11 22,oA 13 1 9,oV 14 12 13 22 9 22,oAJ 15 8 0,oD 16 86 15 1 0,oG 22 16 14 0]) (.seq (.ops [oA 17 1 9,oF 18 17 9 3,oB 4 18 3,⟨some 5,.assign (.const .nilIface),88,none⟩]) (.ret))))⟩
theorem Cv63:zao Tryz.f63=some q63:=by kernel_rfl
abbrev Fn65:FuncId:=65
def q65c0:zac:=.seq (.ops [oD 32 94 1 0 0,oC 33 9 32 9,oB 2 33 9]) (.ret)
@[simp] theorem yup:type_of% (zaa q65c0.eq_1):=zaa rfl
def q65c1:zac:=.seq (.seq (.ops [oD 6 94 1 1 0,oC 7 3 6 3]) (.block 0 (.seq (.ops [oW 9 3 7 1 3 4,oB 8 9 4]) (.cond (.tmp 8) (.seq (.ops [oD 10 94 1 0 0,oC 11 9 10 9,⟨some 12,.binOp .add 9 (.tmp 11) (.const (.string {data:=#[61]})) 9,9,none⟩,oD 13 94 1 2 0,oC 14 9 13 9,oAH 15 9 12 14 9 9,oB 2 15 9]) (.ret)) (.seq (.ops [oW 17 3 7 2 3 4,oB 16 17 4]) (.cond (.tmp 16) (.seq (.ops [oD 18 94 1 0 0,oC 19 9 18 9,⟨some 20,.binOp .add 9 (.tmp 19) (.const (.string {data:=#[62,61]})) 9,9,none⟩,oD 21 94 1 2 0,oC 22 9 21 9,oAH 23 9 20 22 9 9,oB 2 23 9]) (.ret)) (.seq (.ops [oW 25 3 7 3 3 4,oB 24 25 4]) (.cond (.tmp 24) (.seq (.ops [oD 26 94 1 0 0,oC 27 9 26 9,⟨some 28,.binOp .add 9 (.tmp 27) (.const (.string {data:=#[60]})) 9,9,none⟩,oD 29 94 1 2 0,oC 30 9 29 9,oAH 31 9 28 30 9 9,oB 2 31 9]) (.ret)) (.skip))))))))) (q65c0)
@[simp] theorem yuq:type_of% (zaa q65c1.eq_1):=zaa rfl
@[simp] def q65:QFn:=⟨34,[(.tmp 2,9)],.seq (.ops [oZ 1 94 0 0,oN 2 9]) (.seq (.seq (.ops [oC 3 94 1 94,oI 4 90 3 94 4,oU 5 4 4 4]) (.cond (.tmp 5) (.seq (.ops [oN 2 9]) (.ret)) (.skip))) (q65c1))⟩
theorem Cv65:zao Tryz.f65=some q65:=by kernel_rfl
abbrev Fn67:FuncId:=67
def q67c0:zac:=.ops [oA 21 9 3,oJ 22 3 21 1 3 3,oB 9 22 3]
@[simp] theorem yur:type_of% (zaa q67c0.eq_1):=zaa rfl
def q67c1:zac:=.seq (.block 1 (.seq (.ops [oA 23 0 9,oA 24 9 3,oAK 25 9 23 24 5,oA 26 1 5,⟨some 27,.binOp .eql 5 (.tmp 25) (.tmp 26) 5,4,none⟩]) (.cond (.tmp 27) (.seq (.ops [oA 28 7 27,oA 29 0 9,oA 30 8 3,oA 31 9 3,⟨some 32,.slice 9 (.tmp 29) (some (.tmp 30)) (some (.tmp 31)) none,9,none⟩,oY 33 27 1 0 32 27,oV 34 28 33 27 27 27,oB 7 34 27]) (.ops [oA 35 9 3,oJ 36 3 35 1 3 3,oB 8 36 3])) (.skip)))) (q67c0)
@[simp] theorem yus:type_of% (zaa q67c1.eq_1):=zaa rfl
def q67l0:zac:=.seq (.seq (.ops [oA 11 9 3,oA 12 0 9,oF 13 12 9 3,oL 14 3 11 13 3 4,oA 15 14 4,oO 16 7 27 15,oAR 17 16 27 3 15,oO 18 2 3 15,⟨some 19,.binOp .lss 3 (.tmp 17) (.tmp 18) 3,4,some (15,true)⟩,oR 20 15 19 4]) (.cond (.tmp 20) (.skip) (.exit 0))) (q67c1)
@[simp] theorem yut:type_of% (zaa q67l0.eq_1):=zaa rfl
def q67c2:zac:=.seq (.ops [oA 37 7 27,oA 38 0 9,oA 39 8 3,⟨some 40,.slice 9 (.tmp 38) (some (.tmp 39)) none none,9,none⟩,oY 41 27 1 0 40 27,oV 42 37 41 27 27 27,oB 6 42 27]) (.ret)
@[simp] theorem yuu:type_of% (zaa q67c2.eq_1):=zaa rfl
@[simp] def q67:QFn:=⟨43,[(.tmp 6,27)],.seq (.ops [oAF 6 27]) (.seq (.ops [⟨some 10,.buildSlice 27 0 #[],27,none⟩,oB 7 10 27]) (.seq (.ops [oH 8 0 3]) (.seq (.seq (.ops [oH 9 0 3]) (.block 0 (.loop q67l0))) (q67c2))))⟩
theorem Cv67:zao Tryz.f67=some q67:=by kernel_rfl
abbrev Fn68:FuncId:=68
def q68c0:zac:=.seq (.ops [oC 98 29 2 29,oG 29 4 98 0,oAB 5 4]) (.ret)
@[simp] theorem yuv:type_of% (zaa q68c0.eq_1):=zaa rfl
@[simp] def q68:QFn:=⟨99,[(.cell 4 29,29),(.tmp 5,4)],.seq (.ops [oZ 2 29 0 0,oP 4 29 0,oE 5 4]) (.seq (.ops [oA 15 1 9,oI 16 133 15 9 155,oA 14 16 155,oM 17 14 0 9,oM 18 14 1 9,oB 6 17 9,oB 7 18 9]) (.seq (.ops [oA 20 7 9,oI 21 133 20 9 155,oA 19 21 155,oM 22 19 0 9,oM 23 19 1 9,oB 8 22 9,oB 9 23 9]) (.seq (.seq (.ops [oA 24 6 9]) (.block 0 (.seq (.ops [⟨some 27,.binOp .eql 9 (.tmp 24) (.const (.string {data:=#[110,97,109,101]})) 9,4,none⟩,oB 26 27 4]) (.cond (.tmp 26) (.ops [oA 28 7 9,oD 29 29 2 0 0,oG 9 29 28 0]) (.seq (.ops [⟨some 31,.binOp .eql 9 (.tmp 24) (.const (.string {data:=#[118,101,114,115,105,111,110]})) 9,4,none⟩,oB 30 31 4]) (.cond (.tmp 30) (.ops [oA 32 7 9,oD 33 29 2 1 0,oG 9 33 32 0]) (.seq (.ops [⟨some 35,.binOp .eql 9 (.tmp 24) (.const (.string {data:=#[108,101,116]})) 9,4,none⟩,oB 34 35 4]) (.cond (.tmp 34) (.ops [oD 36 29 2 2 0,oC 37 23 36 23,oA 38 8 9,oA 39 9 9,⟨some 40,.build 33 #[(0,.tmp 38),(1,.tmp 39)],33,none⟩,oY 41 23 1 0 40 23,oV 42 37 41 23 23 23,oD 43 29 2 2 0,oG 23 43 42 0]) (.seq (.ops [⟨some 45,.binOp .eql 9 (.tmp 24) (.const (.string {data:=#[98,117,105,108,100]})) 9,4,none⟩,oB 44 45 4]) (.cond (.tmp 44) (.seq (.ops [oA 47 7 9,oI 48 134 47 9 157,oA 46 48 157,oM 49 46 0 94,oM 50 46 1 4,oP 10 94 0,oG 94 10 49 0,oB 11 50 4]) (.ops [oD 51 29 2 3 0,oC 52 24 51 24,oC 53 94 10 94,oY 54 24 1 0 53 24,oV 55 52 54 24 24 24,oD 56 29 2 3 0,oG 24 56 55 0])) (.seq (.ops [⟨some 58,.binOp .eql 9 (.tmp 24) (.const (.string {data:=#[114,117,110]})) 9,4,none⟩,oB 57 58 4]) (.cond (.tmp 57) (.seq (.ops [oA 60 7 9,oI 61 134 60 9 157,oA 59 61 157,oM 62 59 0 94,oM 63 59 1 4,oP 12 94 0,oG 94 12 62 0,oB 13 63 4]) (.ops [oD 64 29 2 4 0,oC 65 24 64 24,oC 66 94 12 94,oY 67 24 1 0 66 24,oV 68 65 67 24 24 24,oD 69 29 2 4 0,oG 24 69 68 0])) (.seq (.ops [⟨some 71,.binOp .eql 9 (.tmp 24) (.const (.string {data:=#[115,111,117,114,99,101]})) 9,4,none⟩,oB 70 71 4]) (.cond (.tmp 70) (.ops [oD 72 29 2 5 0,oC 73 25 72 25,oA 74 8 9,oA 75 9 9,⟨some 76,.build 97 #[(0,.tmp 74),(1,.tmp 75)],97,none⟩,oY 77 25 1 0 76 25,oV 78 73 77 25 25 25,oD 79 29 2 5 0,oG 25 79 78 0]) (.seq (.ops [⟨some 81,.binOp .eql 9 (.tmp 24) (.const (.string {data:=#[112,105,101,99,101]})) 9,4,none⟩,oB 80 81 4]) (.cond (.tmp 80) (.ops [oD 82 29 2 6 0,oC 83 26 82 26,oA 84 8 9,oA 85 9 9,⟨some 86,.build 35 #[(0,.tmp 84),(1,.tmp 85)],35,none⟩,oY 87 26 1 0 86 26,oV 88 83 87 26 26 26,oD 89 29 2 6 0,oG 26 89 88 0]) (.seq (.ops [⟨some 91,.binOp .eql 9 (.tmp 24) (.const (.string {data:=#[115,116,101,112]})) 9,4,none⟩,oB 90 91 4]) (.cond (.tmp 90) (.ops [oD 92 29 2 7 0,oC 93 27 92 27,oA 94 7 9,oY 95 27 1 0 94 27,oV 96 93 95 27 27 27,oD 97 29 2 7 0,oG 27 97 96 0]) (.seq (.ops [oC 25 29 2 29,oG 29 4 25 0,oE 5 4]) (.ret)))))))))))))))))))) (q68c0))))⟩
theorem Cv68:zao Tryz.f68=some q68:=by kernel_rfl
abbrev Fn69:FuncId:=69
@[simp] def q69:QFn:=⟨11,[(.tmp 4,9),(.tmp 5,4)],.seq (.ops [oN 4 9,oE 5 4]) (.seq (.ops [oA 6 0 9,oA 7 1 9,oT 8 135 6 7 9 9 101,oM 9 8 0 9,oM 10 8 1 4,oB 4 9 9,oB 5 10 4]) (.ret))⟩
theorem Cv69:zao Tryz.f69=some q69:=by kernel_rfl
abbrev Fn71:FuncId:=71
def q71c0:zac:=.seq (.ops [oA 126 11 4,oB 4 126 4]) (.ret)
@[simp] theorem yuw:type_of% (zaa q71c0.eq_1):=zaa rfl
@[simp] def q71:QFn:=⟨127,[(.tmp 4,4)],.seq (.ops [oE 4 4]) (.seq (.ops [oA 14 1 9,⟨some 15,.call {callee:=.value (.func 137),args:=#[.tmp 14,.const (.string {data:=#[32]})],argTypes:=#[9,9]},134,none⟩,oA 13 15 134,oM 16 13 0 9,oM 17 13 1 9,oM 18 13 2 4,oB 5 16 9,oB 6 17 9,oB 7 18 4]) (.seq (.ops [oA 20 6 9,⟨some 21,.call {callee:=.value (.func 137),args:=#[.tmp 20,.const (.string {data:=#[32]})],argTypes:=#[9,9]},134,none⟩,oA 19 21 134,oM 22 19 0 9,oM 23 19 1 9,oM 24 19 2 4,oB 8 22 9,oB 9 23 9,oB 10 24 4]) (.seq (.ops [oAB 11 4]) (.seq (.ops [oP 12 94 0]) (.seq (.seq (.ops [oA 25 5 9]) (.block 0 (.seq (.ops [⟨some 27,.binOp .eql 9 (.tmp 25) (.const (.string {data:=#[110,97,109,101]})) 9,4,none⟩,oB 26 27 4]) (.cond (.tmp 26) (.ops [oA 28 0 160,oA 29 6 9,oAJ 30 28 0,oD 31 29 30 0 0,oG 9 31 29 0]) (.seq (.ops [⟨some 33,.binOp .eql 9 (.tmp 25) (.const (.string {data:=#[118,101,114,115,105,111,110]})) 9,4,none⟩,oB 32 33 4]) (.cond (.tmp 32) (.ops [oA 34 0 160,oA 35 6 9,oAJ 36 34 0,oD 37 29 36 1 0,oG 9 37 35 0]) (.seq (.ops [⟨some 39,.binOp .eql 9 (.tmp 25) (.const (.string {data:=#[108,101,116]})) 9,4,none⟩,oB 38 39 4]) (.cond (.tmp 38) (.ops [oA 40 0 160,oA 41 0 160,oAJ 42 41 0,oD 43 29 42 2 0,oC 44 23 43 23,oA 45 8 9,oA 46 9 9,⟨some 47,.build 33 #[(0,.tmp 45),(1,.tmp 46)],33,none⟩,oY 48 23 1 0 47 23,oV 49 44 48 23 23 23,oAJ 50 40 0,oD 51 29 50 2 0,oG 23 51 49 0]) (.seq (.ops [⟨some 53,.binOp .eql 9 (.tmp 25) (.const (.string {data:=#[98,117,105,108,100]})) 9,4,none⟩,oB 52 53 4]) (.cond (.tmp 52) (.seq (.ops [oA 55 6 9,oI 56 138 55 9 157,oA 54 56 157,oM 57 54 0 94,oM 58 54 1 4,oG 94 12 57 0,oB 11 58 4]) (.draw [] [⟨some 59,.move (.tmp 0),160,none⟩,⟨some 60,.move (.tmp 0),160,none⟩,⟨some 61,.nilCheck (.tmp 60),0,none⟩,⟨some 62,.fieldAddr 29 (.tmp 61) 3,0,none⟩,⟨some 63,.load 24 (.tmp 62),24,none⟩,⟨some 64,.load 94 (.tmp 12),94,none⟩,⟨some 65,.buildSlice 24 1 #[(0,.tmp 64)],24,none⟩] [⟨some 66,.call {callee:=.builtin .append,args:=#[.tmp 63,.tmp 65],argTypes:=#[24,24]},24,none⟩,⟨some 67,.nilCheck (.tmp 59),0,none⟩,⟨some 68,.fieldAddr 29 (.tmp 67) 3,0,none⟩,⟨none,.store 24 (.tmp 68) (.tmp 66),0,none⟩])) (.seq (.ops [⟨some 70,.binOp .eql 9 (.tmp 25) (.const (.string {data:=#[114,117,110]})) 9,4,none⟩,oB 69 70 4]) (.cond (.tmp 69) (.seq (.ops [oA 72 6 9,oI 73 138 72 9 157,oA 71 73 157,oM 74 71 0 94,oM 75 71 1 4,oG 94 12 74 0,oB 11 75 4]) (.draw [] [⟨some 76,.move (.tmp 0),160,none⟩,⟨some 77,.move (.tmp 0),160,none⟩,⟨some 78,.nilCheck (.tmp 77),0,none⟩,⟨some 79,.fieldAddr 29 (.tmp 78) 4,0,none⟩,⟨some 80,.load 24 (.tmp 79),24,none⟩,⟨some 81,.load 94 (.tmp 12),94,none⟩,⟨some 82,.buildSlice 24 1 #[(0,.tmp 81)],24,none⟩] [⟨some 83,.call {callee:=.builtin .append,args:=#[.tmp 80,.tmp 82],argTypes:=#[24,24]},24,none⟩,⟨some 84,.nilCheck (.tmp 76),0,none⟩,⟨some 85,.fieldAddr 29 (.tmp 84) 4,0,none⟩,⟨none,.store 24 (.tmp 85) (.tmp 83),0,none⟩])) (.seq (.ops [⟨some 87,.binOp .eql 9 (.tmp 25) (.const (.string {data:=#[115,111,117,114,99,101]})) 9,4,none⟩,oB 86 87 4]) (.cond (.tmp 86) (.ops [oA 88 0 160,oA 89 0 160,oAJ 90 89 0,oD 91 29 90 5 0,oC 92 25 91 25,oA 93 8 9,oA 94 9 9,⟨some 95,.build 97 #[(0,.tmp 93),(1,.tmp 94)],97,none⟩,oY 96 25 1 0 95 25,oV 97 92 96 25 25 25,oAJ 98 88 0,oD 99 29 98 5 0,oG 25 99 97 0]) (.seq (.ops [⟨some 101,.binOp .eql 9 (.tmp 25) (.const (.string {data:=#[112,105,101,99,101]})) 9,4,none⟩,oB 100 101 4]) (.cond (.tmp 100) (.ops [oA 102 0 160,oA 103 0 160,oAJ 104 103 0,oD 105 29 104 6 0,oC 106 26 105 26,oA 107 8 9,oA 108 9 9,⟨some 109,.build 35 #[(0,.tmp 107),(1,.tmp 108)],35,none⟩,oY 110 26 1 0 109 26,oV 111 106 110 26 26 26,oAJ 112 102 0,oD 113 29 112 6 0,oG 26 113 111 0]) (.seq (.ops [⟨some 115,.binOp .eql 9 (.tmp 25) (.const (.string {data:=#[115,116,101,112]})) 9,4,none⟩,oB 114 115 4]) (.cond (.tmp 114) (.ops [oA 116 0 160,oA 117 0 160,oAJ 118 117 0,oD 119 29 118 7 0,oC 120 27 119 27,oA 121 6 9,oY 122 27 1 0 121 27,oV 123 120 122 27 27 27,oAJ 124 116 0,oD 125 29 124 7 0,oG 27 125 123 0]) (.ops [oE 11 4]))))))))))))))))))) (q71c0))))))⟩
theorem Cv71:zao Tryz.f71=some q71:=by kernel_rfl
abbrev Fn76:FuncId:=76
def q76c0:zac:=.ops [oA 15 5 3,oJ 16 3 15 1 3 3,oB 5 16 3]
@[simp] theorem yux:type_of% (zaa q76c0.eq_1):=zaa rfl
def q76c1:zac:=.seq (.block 1 (.seq (.draw [] [⟨some 17,.move (.tmp 0),24,none⟩,⟨some 18,.move (.tmp 5),3,none⟩,⟨some 19,.indexAddr 24 (.tmp 17) (.tmp 18),0,none⟩,⟨some 20,.load 94 (.tmp 19),94,none⟩,⟨some 21,.move (.tmp 1),24,none⟩,⟨some 22,.move (.tmp 5),3,none⟩,⟨some 23,.indexAddr 24 (.tmp 21) (.tmp 22),0,none⟩,⟨some 24,.load 94 (.tmp 23),94,none⟩] [⟨some 25,.binOp .neq 94 (.tmp 20) (.tmp 24) 94,4,none⟩]) (.cond (.tmp 25) (.seq (.ops [oE 4 4]) (.ret)) (.skip)))) (q76c0)
@[simp] theorem yuy:type_of% (zaa q76c1.eq_1):=zaa rfl
def q76l0:zac:=.seq (.seq (.ops [oA 11 5 3,oA 12 0 24,oF 13 12 24 3,oL 14 3 11 13 3 4]) (.cond (.tmp 14) (.skip) (.exit 0))) (q76c1)
@[simp] theorem yuz:type_of% (zaa q76l0.eq_1):=zaa rfl
def q76c2:zac:=.seq (.ops [oAB 4 4]) (.ret)
@[simp] theorem yu0:type_of% (zaa q76c2.eq_1):=zaa rfl
def q76c3:zac:=.seq (.seq (.ops [oH 5 0 3]) (.block 0 (.loop q76l0))) (q76c2)
@[simp] theorem yu1:type_of% (zaa q76c3.eq_1):=zaa rfl
@[simp] def q76:QFn:=⟨26,[(.tmp 4,4)],.seq (.ops [oE 4 4]) (.seq (.seq (.ops [oA 6 0 24,oF 7 6 24 3,oA 8 1 24,oF 9 8 24 3,⟨some 10,.binOp .neq 3 (.tmp 7) (.tmp 9) 3,4,none⟩]) (.cond (.tmp 10) (.seq (.ops [oE 4 4]) (.ret)) (.skip))) (q76c3))⟩
theorem Cv76:zao Tryz.f76=some q76:=by kernel_rfl
abbrev Fn77:FuncId:=77
def q77c0:zac:=.seq (.ops [oA 31 1 9,oB 4 31 9]) (.ret)
@[simp] theorem yu2:type_of% (zaa q77c0.eq_1):=zaa rfl
@[simp] def q77:QFn:=⟨32,[(.tmp 4,9)],.seq (.ops [oN 4 9]) (.seq (.ops [oA 6 0 58,oA 7 1 9,oF 8 7 9 3,oJ 9 3 8 1 3 3,oT 10 80 6 9 58 3 3,oB 5 10 3]) (.seq (.seq (.ops [oA 11 0 58,oAG 12 80 11 5 58 3 3]) (.block 0 (.seq (.ops [oW 14 3 12 0 3 4,oB 13 14 4]) (.cond (.tmp 13) (.seq (.seq (.ice [1]) (.draw [] [⟨some 15,.move (.tmp 1),9,none⟩,⟨some 16,.move (.tmp 5),3,none⟩,⟨some 17,.slice 9 (.tmp 15) none (some (.tmp 16)) none,9,none⟩,⟨some 18,.move (.tmp 0),58,none⟩,⟨some 22,.move (.tmp 1),9,none⟩,⟨some 23,.move (.tmp 5),3,none⟩,⟨some 24,.slice 9 (.tmp 22) (some (.tmp 23)) none none,9,none⟩] [⟨some 19,.buildSlice 27 6 #[(0,.const (.string {data:=#[32]})),(1,.const (.string {data:=#[10]})),(2,.const (.string {data:=#[48]})),(3,.const (.string {data:=#[120]})),(4,.const (.string {data:=#[47]})),(5,.const (.string {data:=#[45]}))],27,none⟩,⟨some 20,.call {callee:=.value (.func 79),args:=#[.tmp 18,.tmp 19],argTypes:=#[58,27]},9,none⟩,⟨some 21,.binOp .add 9 (.tmp 17) (.tmp 20) 9,9,none⟩,⟨some 25,.binOp .add 9 (.tmp 21) (.tmp 24) 9,9,none⟩,⟨some 4,.assign (.tmp 25),9,none⟩])) (.ret)) (.seq (.ops [oW 27 3 12 1 3 4,oB 26 27 4]) (.cond (.tmp 26) (.seq (.ops [oA 28 1 9,oA 29 5 3,⟨some 30,.slice 9 (.tmp 28) none (some (.tmp 29)) none,9,none⟩,oB 4 30 9]) (.ret)) (.skip))))))) (q77c0)))⟩
theorem Cv77:zao Tryz.f77=some q77:=by kernel_rfl
abbrev Fn78:FuncId:=78
def q78c0:zac:=.seq (.ops [oC 74 29 5 29,oG 29 4 74 0]) (.ret)
@[simp] theorem z8f:type_of% (zaa q78c0.eq_1):=zaa rfl
def q78c1:zac:=.seq (.seq (.ops [oA 64 0 58,oAG 65 80 64 3 58 3 3,oW 66 3 65 0 3 4]) (.cond (.tmp 66) (.draw [0] [⟨some 67,.fieldAddr 29 (.tmp 5) 4,0,none⟩,⟨some 68,.load 24 (.tmp 67),24,none⟩,⟨some 69,.move (.tmp 0),58,none⟩,⟨some 70,.call {callee:=.value (.func 83),args:=#[.tmp 69],argTypes:=#[58]},94,none⟩,⟨some 71,.buildSlice 24 1 #[(0,.tmp 70)],24,none⟩] [⟨some 72,.call {callee:=.builtin .append,args:=#[.tmp 68,.tmp 71],argTypes:=#[24,24]},24,none⟩,⟨some 73,.fieldAddr 29 (.tmp 5) 4,0,none⟩,⟨none,.store 24 (.tmp 73) (.tmp 72),0,none⟩]) (.skip))) (q78c0)
@[simp] theorem z8g:type_of% (zaa q78c1.eq_1):=zaa rfl
def q78c2:zac:=.seq (.seq (.ops [oA 54 0 58,oAG 55 80 54 3 58 3 3,oW 56 3 55 0 3 4]) (.cond (.tmp 56) (.draw [0] [⟨some 57,.fieldAddr 29 (.tmp 5) 3,0,none⟩,⟨some 58,.load 24 (.tmp 57),24,none⟩,⟨some 59,.move (.tmp 0),58,none⟩,⟨some 60,.call {callee:=.value (.func 83),args:=#[.tmp 59],argTypes:=#[58]},94,none⟩,⟨some 61,.buildSlice 24 1 #[(0,.tmp 60)],24,none⟩] [⟨some 62,.call {callee:=.builtin .append,args:=#[.tmp 58,.tmp 61],argTypes:=#[24,24]},24,none⟩,⟨some 63,.fieldAddr 29 (.tmp 5) 3,0,none⟩,⟨none,.store 24 (.tmp 63) (.tmp 62),0,none⟩]) (.skip))) (q78c1)
@[simp] theorem z8h:type_of% (zaa q78c2.eq_1):=zaa rfl
def q78c3:zac:=.seq (.seq (.ops [oA 40 0 58,oAG 41 80 40 3 58 3 3,oW 42 3 41 0 3 4]) (.cond (.tmp 42) (.draw [0] [⟨some 43,.fieldAddr 29 (.tmp 5) 6,0,none⟩,⟨some 44,.load 26 (.tmp 43),26,none⟩,⟨some 45,.move (.tmp 1),9,none⟩,⟨some 46,.binOp .add 9 (.tmp 45) (.const (.string {data:=#[108,105,98]})) 9,9,none⟩,⟨some 47,.move (.tmp 0),58,none⟩,⟨some 48,.buildSlice 27 3 #[(0,.const (.string {data:=#[108,105,98,47,42,42]})),(1,.const (.string {data:=#[42,42]})),(2,.const (.string {data:=#[98]}))],27,none⟩,⟨some 49,.call {callee:=.value (.func 79),args:=#[.tmp 47,.tmp 48],argTypes:=#[58,27]},9,none⟩,⟨some 50,.build 35 #[(0,.tmp 46),(1,.tmp 49)],35,none⟩,⟨some 51,.buildSlice 26 1 #[(0,.tmp 50)],26,none⟩] [⟨some 52,.call {callee:=.builtin .append,args:=#[.tmp 44,.tmp 51],argTypes:=#[26,26]},26,none⟩,⟨some 53,.fieldAddr 29 (.tmp 5) 6,0,none⟩,⟨none,.store 26 (.tmp 53) (.tmp 52),0,none⟩]) (.skip))) (q78c2)
@[simp] theorem z8i:type_of% (zaa q78c3.eq_1):=zaa rfl
def q78c4:zac:=.seq (.seq (.ops [oA 26 0 58,oAG 27 80 26 2 58 3 3,oW 28 3 27 0 3 4]) (.cond (.tmp 28) (.draw [0] [⟨some 29,.fieldAddr 29 (.tmp 5) 6,0,none⟩,⟨some 30,.load 26 (.tmp 29),26,none⟩,⟨some 31,.move (.tmp 1),9,none⟩,⟨some 32,.binOp .add 9 (.tmp 31) (.const (.string {data:=#[100,111,99]})) 9,9,none⟩,⟨some 33,.move (.tmp 0),58,none⟩,⟨some 34,.buildSlice 27 3 #[(0,.const (.string {data:=#[100,111,99,47,42,42]})),(1,.const (.string {data:=#[42,42,47,99]})),(2,.const (.string {data:=#[97,47,42]}))],27,none⟩,⟨some 35,.call {callee:=.value (.func 79),args:=#[.tmp 33,.tmp 34],argTypes:=#[58,27]},9,none⟩,⟨some 36,.build 35 #[(0,.tmp 32),(1,.tmp 35)],35,none⟩,⟨some 37,.buildSlice 26 1 #[(0,.tmp 36)],26,none⟩] [⟨some 38,.call {callee:=.builtin .append,args:=#[.tmp 30,.tmp 37],argTypes:=#[26,26]},26,none⟩,⟨some 39,.fieldAddr 29 (.tmp 5) 6,0,none⟩,⟨none,.store 26 (.tmp 39) (.tmp 38),0,none⟩]) (.skip))) (q78c3)
@[simp] theorem z8j:type_of% (zaa q78c4.eq_1):=zaa rfl
@[simp] def q78:QFn:=⟨75,[(.cell 4 29,29)],.seq (.ops [oP 4 29 0]) (.seq (.ops [oA 6 1 9,oA 7 0 58,oI 8 139 7 58 9,oA 9 0 58,oI 10 140 9 58 27,oA 11 0 58,oI 12 141 11 58 23,⟨some 13,.build 29 #[(0,.tmp 6),(1,.tmp 8),(7,.tmp 10),(2,.tmp 12)],29,none⟩,oP 5 29 0,oG 29 5 13 0]) (.seq (.seq (.ops [oA 14 0 58,oAG 15 80 14 2 58 3 3,oW 16 3 15 0 3 4]) (.cond (.tmp 16) (.draw [0] [⟨some 17,.fieldAddr 29 (.tmp 5) 5,0,none⟩,⟨some 18,.load 25 (.tmp 17),25,none⟩,⟨some 19,.move (.tmp 0),58,none⟩,⟨some 20,.call {callee:=.value (.func 143),args:=#[.tmp 19],argTypes:=#[58]},9,none⟩,⟨some 21,.call {callee:=.value (.func 142),args:=#[.tmp 20],argTypes:=#[9]},9,none⟩,⟨some 22,.build 97 #[(0,.const (.string {data:=#[115,114,99]})),(1,.tmp 21)],97,none⟩,⟨some 23,.buildSlice 25 1 #[(0,.tmp 22)],25,none⟩] [⟨some 24,.call {callee:=.builtin .append,args:=#[.tmp 18,.tmp 23],argTypes:=#[25,25]},25,none⟩,⟨some 25,.fieldAddr 29 (.tmp 5) 5,0,none⟩,⟨none,.store 25 (.tmp 25) (.tmp 24),0,none⟩]) (.skip))) (q78c4)))⟩
theorem Cv78:zao Tryz.f78=some q78:=by kernel_rfl
abbrev Fn79:FuncId:=79
@[simp] def q79:QFn:=⟨12,[(.tmp 4,9)],.seq (.ops [oN 4 9]) (.seq (.ops [oA 5 1 27,oA 6 0 58,oA 7 1 27,oF 8 7 27 3,oT 9 80 6 8 58 3 3,oS 10 27 5 9 0,oC 11 9 10 9,oB 4 11 9]) (.ret))⟩
theorem Cv79:zao Tryz.f79=some q79:=by kernel_rfl
abbrev Fn80:FuncId:=80
def q80c0:zac:=.seq (.draw [] [⟨some 47,.move (.tmp 0),58,none⟩,⟨some 48,.nilCheck (.tmp 47),0,none⟩,⟨some 49,.fieldAddr 113 (.tmp 48) 0,0,none⟩,⟨some 50,.load 22 (.tmp 49),22,none⟩,⟨some 51,.move (.tmp 5),3,none⟩,⟨some 52,.move (.tmp 0),58,none⟩,⟨some 53,.nilCheck (.tmp 52),0,none⟩,⟨some 54,.fieldAddr 113 (.tmp 53) 0,0,none⟩,⟨some 55,.load 22 (.tmp 54),22,none⟩,⟨some 56,.call {callee:=.builtin .len,args:=#[.tmp 55],argTypes:=#[22]},3,none⟩,⟨some 57,.binOp .rem 3 (.tmp 51) (.tmp 56) 3,3,none⟩,⟨some 58,.indexAddr 22 (.tmp 50) (.tmp 57),0,none⟩,⟨some 59,.load 5 (.tmp 58),5,none⟩,⟨some 60,.convert 5 3 (.tmp 59),3,none⟩,⟨some 61,.binOp .mul 3 (.tmp 60) (.const (.int .i64 131)) 3,3,none⟩,⟨some 62,.move (.tmp 0),58,none⟩,⟨some 63,.nilCheck (.tmp 62),0,none⟩,⟨some 64,.fieldAddr 113 (.tmp 63) 0,0,none⟩,⟨some 65,.load 22 (.tmp 64),22,none⟩,⟨some 66,.move (.tmp 5),3,none⟩,⟨some 67,.binOp .mul 3 (.tmp 66) (.const (.int .i64 7)) 3,3,none⟩,⟨some 68,.binOp .add 3 (.tmp 67) (.const (.int .i64 3)) 3,3,none⟩,⟨some 69,.move (.tmp 0),58,none⟩,⟨some 70,.nilCheck (.tmp 69),0,none⟩,⟨some 71,.fieldAddr 113 (.tmp 70) 0,0,none⟩,⟨some 72,.load 22 (.tmp 71),22,none⟩,⟨some 73,.call {callee:=.builtin .len,args:=#[.tmp 72],argTypes:=#[22]},3,none⟩,⟨some 74,.binOp .rem 3 (.tmp 68) (.tmp 73) 3,3,none⟩,⟨some 75,.indexAddr 22 (.tmp 65) (.tmp 74),0,none⟩,⟨some 76,.load 5 (.tmp 75),5,none⟩,⟨some 77,.convert 5 3 (.tmp 76),3,none⟩,⟨some 78,.binOp .mul 3 (.tmp 77) (.const (.int .i64 1117)) 3,3,none⟩,⟨some 79,.binOp .add 3 (.tmp 61) (.tmp 78) 3,3,none⟩,⟨some 80,.move (.tmp 5),3,none⟩,⟨some 81,.binOp .mul 3 (.tmp 80) (.const (.int .i64 29)) 3,3,none⟩,⟨some 82,.binOp .add 3 (.tmp 79) (.tmp 81) 3,3,none⟩,⟨some 83,.move (.tmp 5),3,none⟩,⟨some 84,.move (.tmp 0),58,none⟩,⟨some 85,.nilCheck (.tmp 84),0,none⟩,⟨some 86,.fieldAddr 113 (.tmp 85) 0,0,none⟩,⟨some 87,.load 22 (.tmp 86),22,none⟩,⟨some 88,.call {callee:=.builtin .len,args:=#[.tmp 87],argTypes:=#[22]},3,none⟩,⟨some 89,.binOp .quo 3 (.tmp 83) (.tmp 88) 3,3,none⟩,⟨some 90,.binOp .mul 3 (.tmp 89) (.const (.int .i64 53)) 3,3,none⟩] [⟨some 91,.binOp .add 3 (.tmp 82) (.tmp 90) 3,3,none⟩,⟨some 6,.assign (.tmp 91),3,none⟩]) (.seq (.ops [oA 92 6 3,oA 93 6 3,⟨some 94,.binOp .quo 3 (.tmp 93) (.const (.int .i64 64)) 3,3,none⟩,⟨some 95,.binOp .xor 3 (.tmp 92) (.tmp 94) 3,3,none⟩,oB 6 95 3]) (.seq (.ops [oA 96 6 3,oA 97 1 3,⟨some 98,.binOp .rem 3 (.tmp 96) (.tmp 97) 3,3,none⟩,oB 4 98 3]) (.ret)))
@[simp] theorem yu3:type_of% (zaa q80c0.eq_1):=zaa rfl
def q80c1:zac:=.seq (.ops [oA 25 0 58,oAJ 26 25 0,oD 27 113 26 1 0,oC 28 3 27 3,oAT 29 3 28 1 3 3,oB 5 29 3]) (.seq (.seq (.ops [oA 30 5 3,oA 31 0 58,oAJ 32 31 0,oD 33 113 32 0 0,oC 34 22 33 22,oF 35 34 22 3,oL 36 3 30 35 3 4]) (.cond (.tmp 36) (.seq (.ops [oA 37 0 58,oAJ 38 37 0,oD 39 113 38 0 0,oC 40 22 39 22,oA 41 5 3,oS 42 22 40 41 0,oC 43 5 42 5,⟨some 44,.convert 5 3 (.tmp 43),3,none⟩,oA 45 1 3,⟨some 46,.binOp .rem 3 (.tmp 44) (.tmp 45) 3,3,none⟩,oB 4 46 3]) (.ret)) (.skip))) (q80c0))
@[simp] theorem yu4:type_of% (zaa q80c1.eq_1):=zaa rfl
@[simp] def q80:QFn:=⟨99,[(.tmp 4,3)],.seq (.ops [oH 4 0 3]) (.seq (.ops [oA 7 0 58,oA 8 0 58,oAJ 9 8 0,oD 10 113 9 1 0,oC 11 3 10 3,oJ 12 3 11 1 3 3,oAJ 13 7 0,oD 14 113 13 1 0,oG 3 14 12 0]) (.seq (.seq (.ops [oA 15 1 3,oAP 16 3 15 1 3 4,oA 17 16 4,oK 18 0 58 17,⟨some 19,.nilCheck (.tmp 18),0,some (17,false)⟩,oAA 20 113 19 0 0 17,oX 21 22 20 22 17,oAM 22 21 22 3 17,⟨some 23,.binOp .eql 3 (.tmp 22) (.const (.int .i64 0)) 3,4,some (17,false)⟩,oQ 24 17 23 4]) (.cond (.tmp 24) (.seq (.ops [oH 4 0 3]) (.ret)) (.skip))) (q80c1)))⟩
theorem Cv80:zao Tryz.f80=some q80:=by kernel_rfl
abbrev Fn81:FuncId:=81
def q81c0:zac:=.seq (.ops [oA 9 0 58,oI 10 139 9 58 9,oB 2 10 9]) (.ret)
@[simp] theorem yu5:type_of% (zaa q81c0.eq_1):=zaa rfl
@[simp] def q81:QFn:=⟨11,[(.tmp 2,9)],.seq (.ops [oN 2 9]) (.seq (.seq (.ops [oA 3 0 58,oAG 4 80 3 6 58 3 3,oW 5 3 4 0 3 4]) (.cond (.tmp 5) (.seq (.ops [oA 6 0 58,⟨some 7,.buildSlice 27 8 #[(0,.const (.string {data:=#[]})),(1,.const (.string {data:=#[46]})),(2,.const (.string {data:=#[49,46]})),(3,.const (.string {data:=#[48,49]})),(4,.const (.string {data:=#[49,48,48,48]})),(5,.const (.string {data:=#[49,46,50,46,51,46,52,46,53]})),(6,.const (.string {data:=#[97]})),(7,.const (.string {data:=#[49,46,45,49]}))],27,none⟩,oT 8 79 6 7 58 27 9,oB 2 8 9]) (.ret)) (.skip))) (q81c0))⟩
theorem Cv81:zao Tryz.f81=some q81:=by kernel_rfl
abbrev Fn82:FuncId:=82
def q82c0:zac:=.seq (.ops [oC 25 94 3 94,oG 94 2 25 0]) (.ret)
@[simp] theorem yu6:type_of% (zaa q82c0.eq_1):=zaa rfl
@[simp] def q82:QFn:=⟨26,[(.cell 2 94,94)],.seq (.ops [oP 2 94 0]) (.seq (.ops [oA 4 0 58,oI 5 83 4 58 94,oP 3 94 0,oG 94 3 5 0]) (.seq (.seq (.ops [oA 6 0 58,oAG 7 80 6 14 58 3 3]) (.block 0 (.seq (.ops [oW 9 3 7 0 3 4,oB 8 9 4]) (.cond (.tmp 8) (.ops [oA 10 0 58,⟨some 11,.buildSlice 27 4 #[(0,.const (.string {data:=#[]})),(1,.const (.string {data:=#[57]})),(2,.const (.string {data:=#[79,110,101]})),(3,.const (.string {data:=#[101,108,101,118,101,110,108,101,116,116,101]}))],27,none⟩,oT 12 79 10 11 58 27 9,oD 13 94 3 0 0,oG 9 13 12 0]) (.seq (.ops [oW 15 3 7 1 3 4,oB 14 15 4]) (.cond (.tmp 14) (.ops [oA 16 0 58,oAG 17 80 16 6 58 3 3,oAT 18 3 17 1 3 3,oD 19 94 3 1 0,oG 3 19 18 0]) (.seq (.ops [oW 21 3 7 2 3 4,oB 20 21 4]) (.cond (.tmp 20) (.ops [oA 22 0 58,oI 23 81 22 58 9,oD 24 94 3 2 0,oG 9 24 23 0]) (.skip))))))))) (q82c0)))⟩
theorem Cv82:zao Tryz.f82=some q82:=by kernel_rfl
abbrev Fn83:FuncId:=83
def q83c0:zac:=.seq (.ops [oC 16 94 3 94,oG 94 2 16 0]) (.ret)
@[simp] theorem yu7:type_of% (zaa q83c0.eq_1):=zaa rfl
@[simp] def q83:QFn:=⟨17,[(.cell 2 94,94)],.seq (.ops [oP 2 94 0]) (.seq (.ops [oA 4 0 58,⟨some 5,.buildSlice 27 4 #[(0,.const (.string {data:=#[111,110,101]})),(1,.const (.string {data:=#[116,119,111]})),(2,.const (.string {data:=#[116,104,114,101,101]})),(3,.const (.string {data:=#[122,105,112]}))],27,none⟩,oT 6 79 4 5 58 27 9,oA 7 0 58,oAG 8 80 7 4 58 3 3,⟨some 9,.build 94 #[(0,.tmp 6),(1,.tmp 8)],94,none⟩,oP 3 94 0,oG 94 3 9 0]) (.seq (.seq (.ops [oD 10 94 3 1 0,oC 11 3 10 3,oAS 12 3 11 0 3 4]) (.cond (.tmp 12) (.ops [oA 13 0 58,oI 14 139 13 58 9,oD 15 94 3 2 0,oG 9 15 14 0]) (.skip))) (q83c0)))⟩
theorem Cv83:zao Tryz.f83=some q83:=by kernel_rfl
abbrev Fn84:FuncId:=84
def q84c0:zac:=.seq (.ops [oA 11 0 58,oI 12 145 11 58 9,oB 2 12 9]) (.ret)
@[simp] theorem yu8:type_of% (zaa q84c0.eq_1):=zaa rfl
@[simp] def q84:QFn:=⟨13,[(.tmp 2,9)],.seq (.ops [oN 2 9]) (.seq (.seq (.ops [oA 3 0 58,oAG 4 80 3 6 58 3 3,oW 5 3 4 0 3 4]) (.cond (.tmp 5) (.seq (.ops [oA 6 0 58,⟨some 7,.call {callee:=.value (.func 144),args:=#[.const (.string {data:=#[42]}),.const (.int .i64 41)],argTypes:=#[9,3]},9,none⟩,⟨some 8,.call {callee:=.value (.func 144),args:=#[.const (.string {data:=#[42]}),.const (.int .i64 40)],argTypes:=#[9,3]},9,none⟩,⟨some 9,.buildSlice 27 11 #[(0,.const (.string {data:=#[]})),(1,.const (.string {data:=#[47]})),(2,.const (.string {data:=#[97,47,47,98]})),(3,.const (.string {data:=#[91]})),(4,.const (.string {data:=#[91,93]})),(5,.const (.string {data:=#[91,33,93]})),(6,.const (.string {data:=#[91,97]})),(7,.const (.string {data:=#[65]})),(8,.const (.string {data:=#[97,47,98,47,99,47,100,47,101,47,102]})),(9,.tmp 7),(10,.tmp 8)],27,none⟩,oT 10 79 6 9 58 27 9,oB 2 10 9]) (.ret)) (.skip))) (q84c0))⟩
theorem Cv84:zao Tryz.f84=some q84:=by kernel_rfl
abbrev Fn85:FuncId:=85
def q85c0:zac:=.ops [oJ 48 3 23 1 3 3,oA 23 48 3]
@[simp] theorem yu9:type_of% (zaa q85c0.eq_1):=zaa rfl
def q85c1:zac:=.seq (.block 1 (.seq (.ops [oA 25 23 3,oB 3 25 3]) (.seq (.ops [oA 26 0 9,oA 27 3 3,oAK 28 9 26 27 5,⟨some 29,.binOp .lss 5 (.tmp 28) (.const (.int .u8 97)) 5,4,none⟩,oA 30 29 4,oK 31 0 9 30,oK 32 3 3 30,oAQ 33 9 31 32 5 30,oAV 34 5 33 122 5 4 30,oQ 35 30 34 4,oA 36 35 4,oO 37 0 9 36,oO 38 3 3 36,⟨some 39,.index 9 (.tmp 37) (.tmp 38),5,some (36,true)⟩,⟨some 40,.binOp .lss 5 (.tmp 39) (.const (.int .u8 48)) 5,4,some (36,true)⟩,oO 41 40 4 36,oK 42 0 9 41,oK 43 3 3 41,oAQ 44 9 42 43 5 41,oAV 45 5 44 57 5 4 41,⟨some 46,.pick (.tmp 41) (.const (.bool true)) (.tmp 45),4,some (36,true)⟩,oR 47 36 46 4]) (.cond (.tmp 47) (.seq (.ops [oE 2 4]) (.ret)) (.skip))))) (q85c0)
@[simp] theorem yva:type_of% (zaa q85c1.eq_1):=zaa rfl
def q85l0:zac:=.seq (.ops [oL 24 3 23 22 3 4]) (.seq (.cond (.tmp 24) (.skip) (.exit 0)) (q85c1))
@[simp] theorem yvb:type_of% (zaa q85l0.eq_1):=zaa rfl
def q85c2:zac:=.seq (.ops [oAB 2 4]) (.ret)
@[simp] theorem yvc:type_of% (zaa q85c2.eq_1):=zaa rfl
def q85c3:zac:=.seq (.seq (.ops [oA 21 0 9,oF 22 21 9 3,oAC 23 0 3]) (.block 0 (.loop q85l0))) (q85c2)
@[simp] theorem yvd:type_of% (zaa q85c3.eq_1):=zaa rfl
@[simp] def q85:QFn:=⟨49,[(.tmp 2,4)],.seq (.ops [oE 2 4]) (.seq (.seq (.ops [oA 4 0 9,⟨some 5,.binOp .eql 9 (.tmp 4) (.const (.string {data:=#[]})) 9,4,none⟩,oA 6 5 4,oK 7 0 9 6,oAM 8 7 9 3 6,⟨some 9,.binOp .gtr 3 (.tmp 8) (.const (.int .i64 10)) 3,4,some (6,false)⟩,oQ 10 6 9 4,oA 11 10 4,oK 12 0 9 11,⟨some 13,.index 9 (.tmp 12) (.const (.int .i64 0)),5,some (11,false)⟩,⟨some 14,.binOp .lss 5 (.tmp 13) (.const (.int .u8 97)) 5,4,some (11,false)⟩,oQ 15 11 14 4,oA 16 15 4,oK 17 0 9 16,⟨some 18,.index 9 (.tmp 17) (.const (.int .i64 0)),5,some (16,false)⟩,oAV 19 5 18 122 5 4 16,oQ 20 16 19 4]) (.cond (.tmp 20) (.seq (.ops [oE 2 4]) (.ret)) (.skip))) (q85c3))⟩
theorem Cv85:zao Tryz.f85=some q85:=by kernel_rfl
abbrev Fn86:FuncId:=86
@[simp] def q86:QFn:=⟨11,[(.tmp 2,4)],.seq (.ops [oE 2 4]) (.seq (.ops [oA 6 0 9,oI 7 146 6 9 168,oA 5 7 168,oM 8 5 0 167,oM 9 5 1 4,oB 3 8 167,oB 4 9 4]) (.seq (.ops [oA 10 4 4,oB 2 10 4]) (.ret)))⟩
theorem Cv86:zao Tryz.f86=some q86:=by kernel_rfl
abbrev Fn87:FuncId:=87
def q87c0:zac:=.ops [oJ 17 3 9 1 3 3,oA 9 17 3]
@[simp] theorem yve:type_of% (zaa q87c0.eq_1):=zaa rfl
def q87c1:zac:=.seq (.block 1 (.seq (.ops [oS 11 23 7 9 0,oC 12 33 11 33,oP 6 33 0,oG 33 6 12 0]) (.seq (.ops [oA 13 1 115,oC 14 33 6 33,oAE 15 13 14 33 4,oU 16 4 15 4]) (.cond (.tmp 16) (.seq (.ops [oE 4 4]) (.ret)) (.skip))))) (q87c0)
@[simp] theorem yvf:type_of% (zaa q87c1.eq_1):=zaa rfl
def q87l0:zac:=.seq (.ops [oL 10 3 9 8 3 0]) (.seq (.cond (.tmp 10) (.skip) (.exit 0)) (q87c1))
@[simp] theorem yvg:type_of% (zaa q87l0.eq_1):=zaa rfl
def q87c2:zac:=.seq (.ops [oAB 4 4]) (.ret)
@[simp] theorem yvh:type_of% (zaa q87c2.eq_1):=zaa rfl
@[simp] def q87:QFn:=⟨18,[(.tmp 4,4)],.seq (.ops [oE 4 4]) (.seq (.seq (.ops [oA 7 0 23,oF 8 7 23 3,oAC 9 0 3]) (.block 0 (.loop q87l0))) (q87c2))⟩
theorem Cv87:zao Tryz.f87=some q87:=by kernel_rfl
abbrev Fn88:FuncId:=88
@[simp] def q88:QFn:=⟨11,[(.tmp 2,4)],.seq (.ops [oZ 1 33 0 0,oE 2 4]) (.seq (.ops [oD 3 33 1 0 0,oC 4 9 3 9,oI 5 85 4 9 4,oA 6 5 4,oAI 7 33 1 1 0 6,oAD 8 9 7 9 6,oAO 9 96 8 9 4 6,oR 10 6 9 4,oB 2 10 4]) (.ret))⟩
theorem Cv88:zao Tryz.f88=some q88:=by kernel_rfl
abbrev Fn89:FuncId:=89
def q89c0:zac:=.ops [oJ 17 3 9 1 3 3,oA 9 17 3]
@[simp] theorem yvi:type_of% (zaa q89c0.eq_1):=zaa rfl
def q89c1:zac:=.seq (.block 1 (.seq (.ops [oS 11 24 7 9 0,oC 12 94 11 94,oP 6 94 0,oG 94 6 12 0]) (.seq (.ops [oA 13 1 117,oC 14 94 6 94,oAE 15 13 14 94 4,oU 16 4 15 4]) (.cond (.tmp 16) (.seq (.ops [oE 4 4]) (.ret)) (.skip))))) (q89c0)
@[simp] theorem yvj:type_of% (zaa q89c1.eq_1):=zaa rfl
def q89l0:zac:=.seq (.ops [oL 10 3 9 8 3 0]) (.seq (.cond (.tmp 10) (.skip) (.exit 0)) (q89c1))
@[simp] theorem yvk:type_of% (zaa q89l0.eq_1):=zaa rfl
def q89c2:zac:=.seq (.ops [oAB 4 4]) (.ret)
@[simp] theorem yvl:type_of% (zaa q89c2.eq_1):=zaa rfl
@[simp] def q89:QFn:=⟨18,[(.tmp 4,4)],.seq (.ops [oE 4 4]) (.seq (.seq (.ops [oA 7 0 24,oF 8 7 24 3,oAC 9 0 3]) (.block 0 (.loop q89l0))) (q89c2))⟩
theorem Cv89:zao Tryz.f89=some q89:=by kernel_rfl
abbrev Fn90:FuncId:=90
def q90c0:zac:=.cond (.tmp 14) (.seq (.ops [oD 18 94 1 2 0,oC 19 9 18 9,oI 20 86 19 9 4,oB 2 20 4]) (.ret)) (.skip)
@[simp] theorem yvm:type_of% (zaa q90c0.eq_1):=zaa rfl
def q90c1:zac:=.seq (.ops [oE 2 4]) (.ret)
@[simp] theorem yvn:type_of% (zaa q90c1.eq_1):=zaa rfl
def q90c2:zac:=.seq (.seq (.ops [oD 7 94 1 1 0,oC 8 3 7 3]) (.block 0 (.seq (.ops [oW 10 3 8 0 3 4,oB 9 10 4]) (.cond (.tmp 9) (.seq (.ops [oD 11 94 1 2 0,oC 12 9 11 9,⟨some 13,.binOp .eql 9 (.tmp 12) (.const (.string {data:=#[]})) 9,4,none⟩,oB 2 13 4]) (.ret)) (.seq (.seq (.ops [oW 15 3 8 1 3 4,oB 14 15 4]) (.cond (.tmp 14) (.skip) (.seq (.ops [oW 16 3 8 2 3 4,oB 14 16 4]) (.cond (.tmp 14) (.skip) (.ops [oW 17 3 8 3 3 4,oB 14 17 4]))))) (q90c0)))))) (q90c1)
@[simp] theorem yvo:type_of% (zaa q90c2.eq_1):=zaa rfl
@[simp] def q90:QFn:=⟨21,[(.tmp 2,4)],.seq (.ops [oZ 1 94 0 0,oE 2 4]) (.seq (.seq (.ops [oD 3 94 1 0 0,oC 4 9 3 9,oI 5 85 4 9 4,oU 6 4 5 4]) (.cond (.tmp 6) (.seq (.ops [oE 2 4]) (.ret)) (.skip))) (q90c2))⟩
theorem Cv90:zao Tryz.f90=some q90:=by kernel_rfl
abbrev Fn91:FuncId:=91
def q91c0:zac:=.ops [oJ 17 3 9 1 3 3,oA 9 17 3]
@[simp] theorem yvp:type_of% (zaa q91c0.eq_1):=zaa rfl
def q91c1:zac:=.seq (.block 1 (.seq (.ops [oS 11 25 7 9 0,oC 12 97 11 97,oP 6 97 0,oG 97 6 12 0]) (.seq (.ops [oA 13 1 119,oC 14 97 6 97,oAE 15 13 14 97 4,oU 16 4 15 4]) (.cond (.tmp 16) (.seq (.ops [oE 4 4]) (.ret)) (.skip))))) (q91c0)
@[simp] theorem yvq:type_of% (zaa q91c1.eq_1):=zaa rfl
def q91l0:zac:=.seq (.ops [oL 10 3 9 8 3 0]) (.seq (.cond (.tmp 10) (.skip) (.exit 0)) (q91c1))
@[simp] theorem yvr:type_of% (zaa q91l0.eq_1):=zaa rfl
def q91c2:zac:=.seq (.ops [oAB 4 4]) (.ret)
@[simp] theorem yvs:type_of% (zaa q91c2.eq_1):=zaa rfl
@[simp] def q91:QFn:=⟨18,[(.tmp 4,4)],.seq (.ops [oE 4 4]) (.seq (.seq (.ops [oA 7 0 25,oF 8 7 25 3,oAC 9 0 3]) (.block 0 (.loop q91l0))) (q91c2))⟩
theorem Cv91:zao Tryz.f91=some q91:=by kernel_rfl
abbrev Fn92:FuncId:=92
@[simp] def q92:QFn:=⟨11,[(.tmp 2,4)],.seq (.ops [oZ 1 97 0 0,oE 2 4]) (.seq (.ops [oD 3 97 1 0 0,oC 4 9 3 9,oI 5 147 4 9 4,oA 6 5 4,oAI 7 97 1 1 0 6,oAD 8 9 7 9 6,oAO 9 148 8 9 4 6,oR 10 6 9 4,oB 2 10 4]) (.ret))⟩
theorem Cv92:zao Tryz.f92=some q92:=by kernel_rfl
abbrev Fn93:FuncId:=93
def q93c0:zac:=.ops [oJ 17 3 9 1 3 3,oA 9 17 3]
@[simp] theorem yvt:type_of% (zaa q93c0.eq_1):=zaa rfl
def q93c1:zac:=.seq (.block 1 (.seq (.ops [oS 11 26 7 9 0,oC 12 35 11 35,oP 6 35 0,oG 35 6 12 0]) (.seq (.ops [oA 13 1 121,oC 14 35 6 35,oAE 15 13 14 35 4,oU 16 4 15 4]) (.cond (.tmp 16) (.seq (.ops [oE 4 4]) (.ret)) (.skip))))) (q93c0)
@[simp] theorem yvu:type_of% (zaa q93c1.eq_1):=zaa rfl
def q93l0:zac:=.seq (.ops [oL 10 3 9 8 3 0]) (.seq (.cond (.tmp 10) (.skip) (.exit 0)) (q93c1))
@[simp] theorem yvv:type_of% (zaa q93l0.eq_1):=zaa rfl
def q93c2:zac:=.seq (.ops [oAB 4 4]) (.ret)
@[simp] theorem yvw:type_of% (zaa q93c2.eq_1):=zaa rfl
@[simp] def q93:QFn:=⟨18,[(.tmp 4,4)],.seq (.ops [oE 4 4]) (.seq (.seq (.ops [oA 7 0 26,oF 8 7 26 3,oAC 9 0 3]) (.block 0 (.loop q93l0))) (q93c2))⟩
theorem Cv93:zao Tryz.f93=some q93:=by kernel_rfl
abbrev Fn94:FuncId:=94
@[simp] def q94:QFn:=⟨11,[(.tmp 2,4)],.seq (.ops [oZ 1 35 0 0,oE 2 4]) (.seq (.ops [oD 3 35 1 0 0,oC 4 9 3 9,oI 5 85 4 9 4,oA 6 5 4,oAI 7 35 1 1 0 6,oAD 8 9 7 9 6,oAO 9 149 8 9 4 6,oR 10 6 9 4,oB 2 10 4]) (.ret))⟩
theorem Cv94:zao Tryz.f94=some q94:=by kernel_rfl
abbrev Fn95:FuncId:=95
def q95c0:zac:=.ops [oJ 17 3 9 1 3 3,oA 9 17 3]
@[simp] theorem yvx:type_of% (zaa q95c0.eq_1):=zaa rfl
def q95c1:zac:=.seq (.block 1 (.seq (.ops [oS 11 27 7 9 0,oC 12 9 11 9,oB 6 12 9]) (.seq (.ops [oA 13 1 54,oA 14 6 9,oAE 15 13 14 9 4,oU 16 4 15 4]) (.cond (.tmp 16) (.seq (.ops [oE 4 4]) (.ret)) (.skip))))) (q95c0)
@[simp] theorem yvy:type_of% (zaa q95c1.eq_1):=zaa rfl
def q95l0:zac:=.seq (.ops [oL 10 3 9 8 3 0]) (.seq (.cond (.tmp 10) (.skip) (.exit 0)) (q95c1))
@[simp] theorem yvz:type_of% (zaa q95l0.eq_1):=zaa rfl
def q95c2:zac:=.seq (.ops [oAB 4 4]) (.ret)
@[simp] theorem yv0:type_of% (zaa q95c2.eq_1):=zaa rfl
@[simp] def q95:QFn:=⟨18,[(.tmp 4,4)],.seq (.ops [oE 4 4]) (.seq (.seq (.ops [oA 7 0 27,oF 8 7 27 3,oAC 9 0 3]) (.block 0 (.loop q95l0))) (q95c2))⟩
theorem Cv95:zao Tryz.f95=some q95:=by kernel_rfl
abbrev Fn96:FuncId:=96
@[simp] def q96:QFn:=⟨9,[(.tmp 2,4)],.seq (.ops [oE 2 4]) (.seq (.ops [oA 3 0 9,⟨some 4,.binOp .neq 9 (.tmp 3) (.const (.string {data:=#[]})) 9,4,none⟩,oA 5 4 4,oO 6 0 9 5,oAO 7 150 6 9 4 5,oR 8 5 7 4,oB 2 8 4]) (.ret))⟩
theorem Cv96:zao Tryz.f96=some q96:=by kernel_rfl
abbrev Fn97:FuncId:=97
@[simp] def q97:QFn:=⟨5,[(.tmp 2,9)],.seq (.ops [oZ 1 33 0 0,oN 2 9]) (.seq (.ops [oD 3 33 1 0 0,oC 4 9 3 9,oB 2 4 9]) (.ret))⟩
theorem Cv97:zao Tryz.f97=some q97:=by kernel_rfl
abbrev Fn98:FuncId:=98
@[simp] def q98:QFn:=⟨5,[(.tmp 2,9)],.seq (.ops [oZ 1 97 0 0,oN 2 9]) (.seq (.ops [oD 3 97 1 0 0,oC 4 9 3 9,oB 2 4 9]) (.ret))⟩
theorem Cv98:zao Tryz.f98=some q98:=by kernel_rfl
abbrev Fn99:FuncId:=99
@[simp] def q99:QFn:=⟨5,[(.tmp 2,9)],.seq (.ops [oZ 1 35 0 0,oN 2 9]) (.seq (.ops [oD 3 35 1 0 0,oC 4 9 3 9,oB 2 4 9]) (.ret))⟩
theorem Cv99:zao Tryz.f99=some q99:=by kernel_rfl
abbrev yhk:FuncId:=100
def q100c0:zac:=.ops [oA 23 7 27,oA 24 1 123,oC 25 33 9 33,oAE 26 24 25 33 9,oY 27 27 1 0 26 27,oV 28 23 27 27 27 27,oB 7 28 27]
@[simp] theorem yhl:type_of% (zaa q100c0.eq_1):=zaa rfl
def q100c1:zac:=.ops [oJ 29 3 14 1 3 3,oA 14 29 3]
@[simp] theorem yhm:type_of% (zaa q100c1.eq_1):=zaa rfl
def q100c2:zac:=.seq (.block 1 (.seq (.ops [oS 16 23 12 14 0,oC 17 33 16 33,oP 9 33 0,oG 33 9 17 0]) (.seq (.seq (.ops [oA 18 7 27,oA 19 1 123,oC 20 33 9 33,oAE 21 19 20 33 9,oT 22 152 18 21 27 9 4]) (.cond (.tmp 22) (.seq (.ops [oAB 6 4]) (.ret)) (.skip))) (q100c0)))) (q100c1)
@[simp] theorem yhn:type_of% (zaa q100c2.eq_1):=zaa rfl
def q100l0:zac:=.seq (.ops [oL 15 3 14 13 3 0]) (.seq (.cond (.tmp 15) (.skip) (.exit 0)) (q100c2))
@[simp] theorem yho:type_of% (zaa q100l0.eq_1):=zaa rfl
def q100c3:zac:=.seq (.ops [oE 6 4]) (.ret)
@[simp] theorem yhp:type_of% (zaa q100c3.eq_1):=zaa rfl
@[simp] def q100:QFn:=⟨30,[(.tmp 6,4)],.seq (.ops [oE 6 4]) (.seq (.ops [oA 10 2 27,oI 11 151 10 27 27,oB 7 11 27]) (.seq (.seq (.ops [oA 12 0 23,oF 13 12 23 3,oAC 14 0 3]) (.block 0 (.loop q100l0))) (q100c3)))⟩
theorem yhq:zao Tryz.f100=some q100:=by kernel_rfl
abbrev yhr:FuncId:=101
def q101c0:zac:=.ops [oA 23 7 27,oA 24 1 95,oC 25 94 9 94,oAE 26 24 25 94 9,oY 27 27 1 0 26 27,oV 28 23 27 27 27 27,oB 7 28 27]
@[simp] theorem yhs:type_of% (zaa q101c0.eq_1):=zaa rfl
def q101c1:zac:=.ops [oJ 29 3 14 1 3 3,oA 14 29 3]
@[simp] theorem yht:type_of% (zaa q101c1.eq_1):=zaa rfl
def q101c2:zac:=.seq (.block 1 (.seq (.ops [oS 16 24 12 14 0,oC 17 94 16 94,oP 9 94 0,oG 94 9 17 0]) (.seq (.seq (.ops [oA 18 7 27,oA 19 1 95,oC 20 94 9 94,oAE 21 19 20 94 9,oT 22 152 18 21 27 9 4]) (.cond (.tmp 22) (.seq (.ops [oAB 6 4]) (.ret)) (.skip))) (q101c0)))) (q101c1)
@[simp] theorem yhu:type_of% (zaa q101c2.eq_1):=zaa rfl
def q101l0:zac:=.seq (.ops [oL 15 3 14 13 3 0]) (.seq (.cond (.tmp 15) (.skip) (.exit 0)) (q101c2))
@[simp] theorem yhv:type_of% (zaa q101l0.eq_1):=zaa rfl
def q101c3:zac:=.seq (.ops [oE 6 4]) (.ret)
@[simp] theorem yhw:type_of% (zaa q101c3.eq_1):=zaa rfl
@[simp] def q101:QFn:=⟨30,[(.tmp 6,4)],.seq (.ops [oE 6 4]) (.seq (.ops [oA 10 2 27,oI 11 151 10 27 27,oB 7 11 27]) (.seq (.seq (.ops [oA 12 0 24,oF 13 12 24 3,oAC 14 0 3]) (.block 0 (.loop q101l0))) (q101c3)))⟩
theorem yhx:zao Tryz.f101=some q101:=by kernel_rfl
abbrev yhy:FuncId:=102
@[simp] def q102:QFn:=⟨5,[(.tmp 2,9)],.seq (.ops [oZ 1 94 0 0,oN 2 9]) (.seq (.ops [oD 3 94 1 0 0,oC 4 9 3 9,oB 2 4 9]) (.ret))⟩
theorem yhz:zao Tryz.f102=some q102:=by kernel_rfl
abbrev yh0:FuncId:=103
def q103c0:zac:=.ops [oA 23 7 27,oA 24 1 124,oC 25 97 9 97,oAE 26 24 25 97 9,oY 27 27 1 0 26 27,oV 28 23 27 27 27 27,oB 7 28 27]
@[simp] theorem yh1:type_of% (zaa q103c0.eq_1):=zaa rfl
def q103c1:zac:=.ops [oJ 29 3 14 1 3 3,oA 14 29 3]
@[simp] theorem yh2:type_of% (zaa q103c1.eq_1):=zaa rfl
def q103c2:zac:=.seq (.block 1 (.seq (.ops [oS 16 25 12 14 0,oC 17 97 16 97,oP 9 97 0,oG 97 9 17 0]) (.seq (.seq (.ops [oA 18 7 27,oA 19 1 124,oC 20 97 9 97,oAE 21 19 20 97 9,oT 22 152 18 21 27 9 4]) (.cond (.tmp 22) (.seq (.ops [oAB 6 4]) (.ret)) (.skip))) (q103c0)))) (q103c1)
@[simp] theorem yh3:type_of% (zaa q103c2.eq_1):=zaa rfl
def q103l0:zac:=.seq (.ops [oL 15 3 14 13 3 0]) (.seq (.cond (.tmp 15) (.skip) (.exit 0)) (q103c2))
@[simp] theorem yh4:type_of% (zaa q103l0.eq_1):=zaa rfl
def q103c3:zac:=.seq (.ops [oE 6 4]) (.ret)
@[simp] theorem yh5:type_of% (zaa q103c3.eq_1):=zaa rfl
@[simp] def q103:QFn:=⟨30,[(.tmp 6,4)],.seq (.ops [oE 6 4]) (.seq (.ops [oA 10 2 27,oI 11 151 10 27 27,oB 7 11 27]) (.seq (.seq (.ops [oA 12 0 25,oF 13 12 25 3,oAC 14 0 3]) (.block 0 (.loop q103l0))) (q103c3)))⟩
theorem yh6:zao Tryz.f103=some q103:=by kernel_rfl
abbrev yh7:FuncId:=104
def q104c0:zac:=.ops [oA 23 7 27,oA 24 1 125,oC 25 35 9 35,oAE 26 24 25 35 9,oY 27 27 1 0 26 27,oV 28 23 27 27 27 27,oB 7 28 27]
@[simp] theorem yh8:type_of% (zaa q104c0.eq_1):=zaa rfl
def q104c1:zac:=.ops [oJ 29 3 14 1 3 3,oA 14 29 3]
@[simp] theorem yh9:type_of% (zaa q104c1.eq_1):=zaa rfl
def q104c2:zac:=.seq (.block 1 (.seq (.ops [oS 16 26 12 14 0,oC 17 35 16 35,oP 9 35 0,oG 35 9 17 0]) (.seq (.seq (.ops [oA 18 7 27,oA 19 1 125,oC 20 35 9 35,oAE 21 19 20 35 9,oT 22 152 18 21 27 9 4]) (.cond (.tmp 22) (.seq (.ops [oAB 6 4]) (.ret)) (.skip))) (q104c0)))) (q104c1)
@[simp] theorem yia:type_of% (zaa q104c2.eq_1):=zaa rfl
def q104l0:zac:=.seq (.ops [oL 15 3 14 13 3 0]) (.seq (.cond (.tmp 15) (.skip) (.exit 0)) (q104c2))
@[simp] theorem yib:type_of% (zaa q104l0.eq_1):=zaa rfl
def q104c3:zac:=.seq (.ops [oE 6 4]) (.ret)
@[simp] theorem yic:type_of% (zaa q104c3.eq_1):=zaa rfl
@[simp] def q104:QFn:=⟨30,[(.tmp 6,4)],.seq (.ops [oE 6 4]) (.seq (.ops [oA 10 2 27,oI 11 151 10 27 27,oB 7 11 27]) (.seq (.seq (.ops [oA 12 0 26,oF 13 12 26 3,oAC 14 0 3]) (.block 0 (.loop q104l0))) (q104c3)))⟩
theorem yid:zao Tryz.f104=some q104:=by kernel_rfl
abbrev yie:FuncId:=105
@[simp] def q105:QFn:=⟨13,[(.tmp 2,23)],.seq (.ops [oZ 1 29 0 0,oAF 2 23]) (.seq (.ops [oD 3 29 1 0 0,oC 4 9 3 9,⟨some 5,.build 33 #[(0,.const (.string {data:=#[110,97,109,101]})),(1,.tmp 4)],33,none⟩,oD 6 29 1 1 0,oC 7 9 6 9,⟨some 8,.build 33 #[(0,.const (.string {data:=#[118,101,114,115,105,111,110]})),(1,.tmp 7)],33,none⟩,⟨some 9,.buildSlice 23 2 #[(0,.tmp 5),(1,.tmp 8)],23,none⟩,oD 10 29 1 2 0,oC 11 23 10 23,oV 12 9 11 23 23 23,oB 2 12 23]) (.ret))⟩
theorem yif:zao Tryz.f105=some q105:=by kernel_rfl
abbrev ydn:FuncId:=106
def q106c0:zac:=.seq (.ops [oA 34 8 9,oB 4 34 9,oH 5 0 3]) (.ret)
@[simp] theorem yig:type_of% (zaa q106c0.eq_1):=zaa rfl
def q106c1:zac:=.seq (.ops [oA 23 0 23,⟨some 24,.build 172 #[(0,.tmp 23)],172,none⟩,oP 7 172 0,oG 172 7 24 0]) (.seq (.ops [oA 26 1 9,oT 27 155 7 26 172 9 173,oA 25 27 173,oM 28 25 0 9,oM 29 25 1 88,oB 8 28 9,oB 9 29 88]) (.seq (.seq (.ops [oA 30 9 88,⟨some 31,.binOp .neq 88 (.tmp 30) (.const .nilIface) 88,4,none⟩]) (.cond (.tmp 31) (.seq (.ops [oA 32 9 88,oI 33 156 32 88 3,oN 4 9,oB 5 33 3]) (.ret)) (.skip))) (q106c0)))
@[simp] theorem yih:type_of% (zaa q106c1.eq_1):=zaa rfl
@[simp] def q106:QFn:=⟨35,[(.tmp 4,9),(.tmp 5,3)],.seq (.ops [oN 4 9,oH 5 0 3]) (.seq (.ops [⟨some 6,.assign (.func 153),115,none⟩]) (.seq (.seq (.ops [oA 10 0 23,oF 11 10 23 3,oAL 12 3 11 8 3 4,oA 13 12 4,oK 14 0 23 13,oK 15 6 115 13,⟨some 16,.call {callee:=.value (.func 154),args:=#[.tmp 14,.tmp 15],argTypes:=#[23,115]},4,some (13,false)⟩,oQ 17 13 16 4,oA 18 17 4,oK 19 1 9 18,oAN 20 96 19 9 4 18,⟨some 21,.unOp .not 4 (.tmp 20),4,some (18,false)⟩,oQ 22 18 21 4]) (.cond (.tmp 22) (.seq (.ops [oN 4 9,oH 5 1 3]) (.ret)) (.skip))) (q106c1)))⟩
theorem yii:zao Tryz.f106=some q106:=by kernel_rfl
abbrev ydo:FuncId:=107
def q107c0:zac:=.ops [oA 8 3 3,oJ 9 3 8 1 3 3,oB 3 9 3]
@[simp] theorem yij:type_of% (zaa q107c0.eq_1):=zaa rfl
def q107c1:zac:=.seq (.block 1 (.seq (.ops [oA 10 0 9,oA 11 3 3,oAK 12 9 10 11 5,oI 13 157 12 5 4,oU 14 4 13 4]) (.cond (.tmp 14) (.seq (.ops [oE 2 4]) (.ret)) (.skip)))) (q107c0)
@[simp] theorem yik:type_of% (zaa q107c1.eq_1):=zaa rfl
def q107l0:zac:=.seq (.seq (.ops [oA 4 3 3,oA 5 0 9,oF 6 5 9 3,oL 7 3 4 6 3 4]) (.cond (.tmp 7) (.skip) (.exit 0))) (q107c1)
@[simp] theorem yil:type_of% (zaa q107l0.eq_1):=zaa rfl
def q107c2:zac:=.seq (.ops [oA 15 0 9,oF 16 15 9 3,oAY 17 158 16 1 10 3 3 3 4,oA 18 17 4,oO 19 0 9 18,⟨some 20,.binOp .neq 9 (.tmp 19) (.const (.string {data:=#[46]})) 9,4,some (18,true)⟩,oR 21 18 20 4,oA 22 21 4,oO 23 0 9 22,⟨some 24,.binOp .neq 9 (.tmp 23) (.const (.string {data:=#[46,46]})) 9,4,some (22,true)⟩,oR 25 22 24 4,oB 2 25 4]) (.ret)
@[simp] theorem yim:type_of% (zaa q107c2.eq_1):=zaa rfl
@[simp] def q107:QFn:=⟨26,[(.tmp 2,4)],.seq (.ops [oE 2 4]) (.seq (.seq (.ops [oH 3 0 3]) (.block 0 (.loop q107l0))) (q107c2))⟩
theorem yin:zao Tryz.f107=some q107:=by kernel_rfl
abbrev ydp:FuncId:=108
def q108c0:zac:=.ops [oA 8 3 3,oJ 9 3 8 1 3 3,oB 3 9 3]
@[simp] theorem yio:type_of% (zaa q108c0.eq_1):=zaa rfl
def q108c1:zac:=.seq (.block 1 (.seq (.ops [oA 10 0 9,oA 11 3 3,oAK 12 9 10 11 5,⟨some 13,.binOp .geq 5 (.tmp 12) (.const (.int .u8 48)) 5,4,none⟩,oA 14 13 4,oO 15 0 9 14,oO 16 3 3 14,⟨some 17,.index 9 (.tmp 15) (.tmp 16),5,some (14,true)⟩,oAW 18 5 17 57 5 4 14,oR 19 14 18 4,oA 20 19 4,oK 21 0 9 20,oK 22 3 3 20,oAQ 23 9 21 22 5 20,⟨some 24,.binOp .geq 5 (.tmp 23) (.const (.int .u8 97)) 5,4,some (20,false)⟩,oK 25 24 4 20,oO 26 0 9 25,oO 27 3 3 25,⟨some 28,.index 9 (.tmp 26) (.tmp 27),5,some (25,true)⟩,oAW 29 5 28 102 5 4 25,oAU 30 25 29 4 20,oQ 31 20 30 4,oU 32 4 31 4]) (.cond (.tmp 32) (.seq (.ops [oE 2 4]) (.ret)) (.skip)))) (q108c0)
@[simp] theorem yip:type_of% (zaa q108c1.eq_1):=zaa rfl
def q108l0:zac:=.seq (.seq (.ops [oA 4 3 3,oA 5 0 9,oF 6 5 9 3,oL 7 3 4 6 3 4]) (.cond (.tmp 7) (.skip) (.exit 0))) (q108c1)
@[simp] theorem yiq:type_of% (zaa q108l0.eq_1):=zaa rfl
def q108c2:zac:=.seq (.ops [oA 33 0 9,oF 34 33 9 3,oW 35 3 34 16 3 4,oB 2 35 4]) (.ret)
@[simp] theorem yir:type_of% (zaa q108c2.eq_1):=zaa rfl
@[simp] def q108:QFn:=⟨36,[(.tmp 2,4)],.seq (.ops [oE 2 4]) (.seq (.seq (.ops [oH 3 0 3]) (.block 0 (.loop q108l0))) (q108c2))⟩
theorem yis:zao Tryz.f108=some q108:=by kernel_rfl
abbrev ydq:FuncId:=109
def q109c0:zac:=.ops [oA 9 3 3,oJ 10 3 9 1 3 3,oB 3 10 3]
@[simp] theorem yit:type_of% (zaa q109c0.eq_1):=zaa rfl
def q109c1:zac:=.seq (.block 1 (.seq (.ops [oA 11 0 9,oA 12 3 3,oAK 13 9 11 12 5,⟨some 14,.binOp .geq 5 (.tmp 13) (.const (.int .u8 97)) 5,4,none⟩,oA 15 14 4,oO 16 0 9 15,oO 17 3 3 15,⟨some 18,.index 9 (.tmp 16) (.tmp 17),5,some (15,true)⟩,oAW 19 5 18 122 5 4 15,oR 20 15 19 4,oB 4 20 4]) (.seq (.ops [oA 21 4 4,oU 22 4 21 4,oA 23 22 4,oO 24 3 3 23,⟨some 25,.binOp .eql 3 (.tmp 24) (.const (.int .i64 0)) 3,4,some (23,true)⟩,oO 26 25 4 23,oK 27 0 9 26,oK 28 3 3 26,oAQ 29 9 27 28 5 26,⟨some 30,.binOp .lss 5 (.tmp 29) (.const (.int .u8 48)) 5,4,some (26,false)⟩,⟨some 31,.pick (.tmp 26) (.const (.bool true)) (.tmp 30),4,some (23,true)⟩,oO 32 31 4 23,oK 33 0 9 32,oK 34 3 3 32,oAQ 35 9 33 34 5 32,oAV 36 5 35 57 5 4 32,⟨some 37,.pick (.tmp 32) (.const (.bool true)) (.tmp 36),4,some (23,true)⟩,oR 38 23 37 4]) (.cond (.tmp 38) (.seq (.ops [oE 2 4]) (.ret)) (.skip))))) (q109c0)
@[simp] theorem yiu:type_of% (zaa q109c1.eq_1):=zaa rfl
def q109l0:zac:=.seq (.seq (.ops [oA 5 3 3,oA 6 0 9,oF 7 6 9 3,oL 8 3 5 7 3 4]) (.cond (.tmp 8) (.skip) (.exit 0))) (q109c1)
@[simp] theorem yiv:type_of% (zaa q109l0.eq_1):=zaa rfl
def q109c2:zac:=.seq (.ops [oA 39 0 9,oF 40 39 9 3,oAY 41 158 40 1 10 3 3 3 4,oB 2 41 4]) (.ret)
@[simp] theorem yiw:type_of% (zaa q109c2.eq_1):=zaa rfl
@[simp] def q109:QFn:=⟨42,[(.tmp 2,4)],.seq (.ops [oE 2 4]) (.seq (.seq (.ops [oH 3 0 3]) (.block 0 (.loop q109l0))) (q109c2))⟩
theorem yix:zao Tryz.f109=some q109:=by kernel_rfl
abbrev ydr:FuncId:=110
def q110c0:zac:=.ops [oA 14 4 3,oJ 15 3 14 1 3 3,oB 4 15 3]
@[simp] theorem yiy:type_of% (zaa q110c0.eq_1):=zaa rfl
def q110c1:zac:=.seq (.block 1 (.seq (.ops [oA 16 3 27,oA 17 4 3,oS 18 27 16 17 0,oC 19 9 18 9,oI 20 159 19 9 4,oU 21 4 20 4]) (.cond (.tmp 21) (.seq (.ops [oE 2 4]) (.ret)) (.skip)))) (q110c0)
@[simp] theorem yiz:type_of% (zaa q110c1.eq_1):=zaa rfl
def q110l0:zac:=.seq (.seq (.ops [oA 10 4 3,oA 11 3 27,oF 12 11 27 3,oL 13 3 10 12 3 4]) (.cond (.tmp 13) (.skip) (.exit 0))) (q110c1)
@[simp] theorem yi0:type_of% (zaa q110l0.eq_1):=zaa rfl
def q110c2:zac:=.seq (.ops [oA 22 3 27,oF 23 22 27 3,⟨some 24,.binOp .leq 3 (.tmp 23) (.const (.int .i64 5)) 3,4,none⟩,oA 25 24 4,oO 26 0 9 25,oAR 27 26 9 3 25,⟨some 28,.binOp .leq 3 (.tmp 27) (.const (.int .i64 40)) 3,4,some (25,true)⟩,oR 29 25 28 4,oB 2 29 4]) (.ret)
@[simp] theorem yi1:type_of% (zaa q110c2.eq_1):=zaa rfl
@[simp] def q110:QFn:=⟨30,[(.tmp 2,4)],.seq (.ops [oE 2 4]) (.seq (.ops [oA 5 0 9,oA 6 0 9,oF 7 6 9 3,oJ 8 3 7 1 3 3,⟨some 9,.call {callee:=.value (.func 67),args:=#[.tmp 5,.const (.int .u8 47),.tmp 8],argTypes:=#[9,5,3]},27,none⟩,oB 3 9 27]) (.seq (.seq (.ops [oH 4 0 3]) (.block 0 (.loop q110l0))) (q110c2)))⟩
theorem yi2:zao Tryz.f110=some q110:=by kernel_rfl
abbrev yds:FuncId:=111
def q111c0:zac:=.ops [oA 8 3 3,oJ 9 3 8 1 3 3,oB 3 9 3]
@[simp] theorem yi3:type_of% (zaa q111c0.eq_1):=zaa rfl
def q111c1:zac:=.seq (.block 1 (.seq (.ops [oA 10 0 9,oA 11 3 3,oAK 12 9 10 11 5,⟨some 13,.convert 5 3 (.tmp 12),3,none⟩,oAY 14 158 13 32 126 3 3 3 4,oU 15 4 14 4]) (.cond (.tmp 15) (.seq (.ops [oE 2 4]) (.ret)) (.skip)))) (q111c0)
@[simp] theorem yi4:type_of% (zaa q111c1.eq_1):=zaa rfl
def q111l0:zac:=.seq (.seq (.ops [oA 4 3 3,oA 5 0 9,oF 6 5 9 3,oL 7 3 4 6 3 4]) (.cond (.tmp 7) (.skip) (.exit 0))) (q111c1)
@[simp] theorem yi5:type_of% (zaa q111l0.eq_1):=zaa rfl
def q111c2:zac:=.seq (.ops [oA 16 0 9,oF 17 16 9 3,oAY 18 158 17 1 80 3 3 3 4,oB 2 18 4]) (.ret)
@[simp] theorem yi6:type_of% (zaa q111c2.eq_1):=zaa rfl
@[simp] def q111:QFn:=⟨19,[(.tmp 2,4)],.seq (.ops [oE 2 4]) (.seq (.seq (.ops [oH 3 0 3]) (.block 0 (.loop q111l0))) (q111c2))⟩
theorem yi7:zao Tryz.f111=some q111:=by kernel_rfl
abbrev yi8:FuncId:=112
@[simp] def q112:QFn:=⟨11,[(.tmp 2,4)],.seq (.ops [oE 2 4]) (.seq (.ops [oA 6 0 9,oI 7 160 6 9 178,oA 5 7 178,oM 8 5 0 166,oM 9 5 1 4,oB 3 8 166,oB 4 9 4]) (.seq (.ops [oA 10 4 4,oB 2 10 4]) (.ret)))⟩
theorem yi9:zao Tryz.f112=some q112:=by kernel_rfl
abbrev yja:FuncId:=113
def q113c0:zac:=.ops [oA 8 3 3,oJ 9 3 8 1 3 3,oB 3 9 3]
@[simp] theorem yjb:type_of% (zaa q113c0.eq_1):=zaa rfl
def q113c1:zac:=.seq (.block 1 (.seq (.ops [oA 10 0 23,oA 11 3 3,oS 12 23 10 11 0,oD 13 33 12 0 0,oC 14 9 13 9,oI 15 109 14 9 4,oU 16 4 15 4,oA 17 16 4,oK 18 0 23 17,oK 19 3 3 17,⟨some 20,.indexAddr 23 (.tmp 18) (.tmp 19),0,some (17,false)⟩,oAA 21 33 20 1 0 17,oX 22 9 21 9 17,oAN 23 111 22 9 4 17,⟨some 24,.unOp .not 4 (.tmp 23),4,some (17,false)⟩,oQ 25 17 24 4]) (.cond (.tmp 25) (.seq (.ops [oE 2 4]) (.ret)) (.skip)))) (q113c0)
@[simp] theorem yjc:type_of% (zaa q113c1.eq_1):=zaa rfl
def q113l0:zac:=.seq (.seq (.ops [oA 4 3 3,oA 5 0 23,oF 6 5 23 3,oL 7 3 4 6 3 4]) (.cond (.tmp 7) (.skip) (.exit 0))) (q113c1)
@[simp] theorem yjd:type_of% (zaa q113l0.eq_1):=zaa rfl
def q113c2:zac:=.seq (.ops [oA 26 0 23,oF 27 26 23 3,⟨some 28,.binOp .leq 3 (.tmp 27) (.const (.int .i64 8)) 3,4,none⟩,oB 2 28 4]) (.ret)
@[simp] theorem yje:type_of% (zaa q113c2.eq_1):=zaa rfl
@[simp] def q113:QFn:=⟨29,[(.tmp 2,4)],.seq (.ops [oE 2 4]) (.seq (.seq (.ops [oH 3 0 3]) (.block 0 (.loop q113l0))) (q113c2))⟩
theorem yjf:zao Tryz.f113=some q113:=by kernel_rfl
abbrev yjg:FuncId:=114
def q114c0:zac:=.ops [oA 8 3 3,oJ 9 3 8 1 3 3,oB 3 9 3]
@[simp] theorem yjh:type_of% (zaa q114c0.eq_1):=zaa rfl
def q114c1:zac:=.seq (.block 1 (.seq (.ops [oA 10 0 24,oA 11 3 3,oS 12 24 10 11 0,oC 13 94 12 94,oI 14 161 13 94 4,oU 15 4 14 4]) (.cond (.tmp 15) (.seq (.ops [oE 2 4]) (.ret)) (.skip)))) (q114c0)
@[simp] theorem yji:type_of% (zaa q114c1.eq_1):=zaa rfl
def q114l0:zac:=.seq (.seq (.ops [oA 4 3 3,oA 5 0 24,oF 6 5 24 3,oL 7 3 4 6 3 4]) (.cond (.tmp 7) (.skip) (.exit 0))) (q114c1)
@[simp] theorem yjj:type_of% (zaa q114l0.eq_1):=zaa rfl
def q114c2:zac:=.seq (.ops [oA 16 0 24,oF 17 16 24 3,⟨some 18,.binOp .leq 3 (.tmp 17) (.const (.int .i64 6)) 3,4,none⟩,oB 2 18 4]) (.ret)
@[simp] theorem yjk:type_of% (zaa q114c2.eq_1):=zaa rfl
@[simp] def q114:QFn:=⟨19,[(.tmp 2,4)],.seq (.ops [oE 2 4]) (.seq (.seq (.ops [oH 3 0 3]) (.block 0 (.loop q114l0))) (q114c2))⟩
theorem yjl:zao Tryz.f114=some q114:=by kernel_rfl
abbrev yjm:FuncId:=115
def q115c0:zac:=.ops [oA 14 4 3,oJ 15 3 14 1 3 3,oB 4 15 3]
@[simp] theorem yjn:type_of% (zaa q115c0.eq_1):=zaa rfl
def q115c1:zac:=.seq (.block 3 (.seq (.draw [] [⟨some 16,.move (.tmp 0),27,none⟩,⟨some 17,.move (.tmp 4),3,none⟩,⟨some 18,.indexAddr 27 (.tmp 16) (.tmp 17),0,none⟩,⟨some 19,.load 9 (.tmp 18),9,none⟩,⟨some 20,.move (.tmp 0),27,none⟩,⟨some 21,.move (.tmp 3),3,none⟩,⟨some 22,.indexAddr 27 (.tmp 20) (.tmp 21),0,none⟩,⟨some 23,.load 9 (.tmp 22),9,none⟩] [⟨some 24,.binOp .eql 9 (.tmp 19) (.tmp 23) 9,4,none⟩]) (.cond (.tmp 24) (.seq (.ops [oAB 2 4]) (.ret)) (.skip)))) (q115c0)
@[simp] theorem yjo:type_of% (zaa q115c1.eq_1):=zaa rfl
def q115l0:zac:=.seq (.seq (.ops [oA 11 4 3,oA 12 3 3,oL 13 3 11 12 3 4]) (.cond (.tmp 13) (.skip) (.exit 2))) (q115c1)
@[simp] theorem yjp:type_of% (zaa q115l0.eq_1):=zaa rfl
def q115c2:zac:=.ops [oA 9 3 3,oJ 10 3 9 1 3 3,oB 3 10 3]
@[simp] theorem yjq:type_of% (zaa q115c2.eq_1):=zaa rfl
def q115c3:zac:=.seq (.block 1 (.seq (.ops [oH 4 0 3]) (.block 2 (.loop q115l0)))) (q115c2)
@[simp] theorem yjr:type_of% (zaa q115c3.eq_1):=zaa rfl
def q115l1:zac:=.seq (.seq (.ops [oA 5 3 3,oA 6 0 27,oF 7 6 27 3,oL 8 3 5 7 3 4]) (.cond (.tmp 8) (.skip) (.exit 0))) (q115c3)
@[simp] theorem yjs:type_of% (zaa q115l1.eq_1):=zaa rfl
def q115c4:zac:=.seq (.ops [oE 2 4]) (.ret)
@[simp] theorem yjt:type_of% (zaa q115c4.eq_1):=zaa rfl
@[simp] def q115:QFn:=⟨25,[(.tmp 2,4)],.seq (.ops [oE 2 4]) (.seq (.seq (.ops [oH 3 0 3]) (.block 0 (.loop q115l1))) (q115c4))⟩
theorem yju:zao Tryz.f115=some q115:=by kernel_rfl
abbrev yjv:FuncId:=116
def q116c0:zac:=.ops [oA 10 5 3,oJ 11 3 10 1 3 3,oB 5 11 3]
@[simp] theorem yjw:type_of% (zaa q116c0.eq_1):=zaa rfl
def q116c1:zac:=.seq (.block 1 (.seq (.ops [oA 12 0 9,oA 13 5 3,oAK 14 9 12 13 5,⟨some 15,.binOp .eql 5 (.tmp 14) (.const (.int .u8 125)) 5,4,none⟩]) (.cond (.tmp 15) (.seq (.seq (.ice [0,0,0]) (.draw [] [⟨some 16,.move (.tmp 0),9,none⟩,⟨some 17,.move (.tmp 5),3,none⟩,⟨some 18,.slice 9 (.tmp 16) (some (.const (.int .i64 2))) (some (.tmp 17)) none,9,none⟩,⟨some 19,.move (.tmp 0),9,none⟩,⟨some 20,.move (.tmp 5),3,none⟩,⟨some 23,.move (.tmp 0),9,none⟩,⟨some 24,.move (.tmp 5),3,none⟩,⟨some 25,.slice 9 (.tmp 23) (some (.const (.int .i64 2))) (some (.tmp 24)) none,9,none⟩,⟨some 21,.binOp .add 3 (.tmp 20) (.const (.int .i64 1)) 3,3,none⟩,⟨some 22,.slice 9 (.tmp 19) (some (.tmp 21)) none none,9,none⟩,⟨some 26,.call {callee:=.value (.func 109),args:=#[.tmp 25],argTypes:=#[9]},4,none⟩,⟨some 2,.assign (.tmp 18),9,none⟩] [⟨some 3,.assign (.tmp 22),9,none⟩,⟨some 4,.assign (.tmp 26),4,none⟩])) (.ret)) (.skip)))) (q116c0)
@[simp] theorem yjx:type_of% (zaa q116c1.eq_1):=zaa rfl
def q116l0:zac:=.seq (.seq (.ops [oA 6 5 3,oA 7 0 9,oF 8 7 9 3,oL 9 3 6 8 3 4]) (.cond (.tmp 9) (.skip) (.exit 0))) (q116c1)
@[simp] theorem yjy:type_of% (zaa q116l0.eq_1):=zaa rfl
def q116c2:zac:=.seq (.ops [oN 2 9,oN 3 9,oE 4 4]) (.ret)
@[simp] theorem yjz:type_of% (zaa q116c2.eq_1):=zaa rfl
@[simp] def q116:QFn:=⟨27,[(.tmp 2,9),(.tmp 3,9),(.tmp 4,4)],.seq (.ops [oN 2 9,oN 3 9,oE 4 4]) (.seq (.seq (.ops [oH 5 2 3]) (.block 0 (.loop q116l0))) (q116c2))⟩
theorem yj0:zao Tryz.f116=some q116:=by kernel_rfl
abbrev yj1:FuncId:=117
def q117c0:zac:=.ops [oA 10 5 3,oJ 11 3 10 1 3 3,oB 5 11 3]
@[simp] theorem yj2:type_of% (zaa q117c0.eq_1):=zaa rfl
def q117c1:zac:=.seq (.block 1 (.seq (.ops [oA 12 0 23,oA 13 5 3,oS 14 23 12 13 0,oD 15 33 14 0 0,oC 16 9 15 9,oA 17 1 9,⟨some 18,.binOp .eql 9 (.tmp 16) (.tmp 17) 9,4,none⟩]) (.cond (.tmp 18) (.seq (.ops [oA 19 5 3,oB 4 19 3]) (.ret)) (.skip)))) (q117c0)
@[simp] theorem yj3:type_of% (zaa q117c1.eq_1):=zaa rfl
def q117l0:zac:=.seq (.seq (.ops [oA 6 5 3,oA 7 0 23,oF 8 7 23 3,oL 9 3 6 8 3 4]) (.cond (.tmp 9) (.skip) (.exit 0))) (q117c1)
@[simp] theorem yj4:type_of% (zaa q117l0.eq_1):=zaa rfl
def q117c2:zac:=.seq (.ops [⟨some 4,.assign (.const (.int .i64 (-1))),3,none⟩]) (.ret)
@[simp] theorem yj5:type_of% (zaa q117c2.eq_1):=zaa rfl
@[simp] def q117:QFn:=⟨20,[(.tmp 4,3)],.seq (.ops [oH 4 0 3]) (.seq (.seq (.ops [oH 5 0 3]) (.block 0 (.loop q117l0))) (q117c2))⟩
theorem yj6:zao Tryz.f117=some q117:=by kernel_rfl
abbrev yj7:FuncId:=130
@[simp] def q130:QFn:=⟨12,[(.tmp 2,9)],.seq (.ops [oZ 1 94 0 0,oN 2 9]) (.seq (.draw [] [⟨some 3,.fieldAddr 94 (.tmp 1) 0,0,none⟩,⟨some 4,.load 9 (.tmp 3),9,none⟩,⟨some 5,.fieldAddr 94 (.tmp 1) 1,0,none⟩,⟨some 6,.load 3 (.tmp 5),3,none⟩,⟨some 7,.call {callee:=.value (.func 162),args:=#[.tmp 6],argTypes:=#[3]},9,none⟩,⟨some 8,.binOp .add 9 (.tmp 4) (.tmp 7) 9,9,none⟩,⟨some 9,.fieldAddr 94 (.tmp 1) 2,0,none⟩,⟨some 10,.load 9 (.tmp 9),9,none⟩] [⟨some 11,.binOp .add 9 (.tmp 8) (.tmp 10) 9,9,none⟩,⟨some 2,.assign (.tmp 11),9,none⟩]) (.ret))⟩
theorem yj8:zao Tryz.f130=some q130:=by kernel_rfl
abbrev yj9:FuncId:=133
def q133c0:zac:=.seq (.draw [] [⟨some 11,.move (.tmp 4),27,none⟩,⟨some 12,.indexAddr 27 (.tmp 11) (.const (.int .i64 0)),0,none⟩,⟨some 13,.load 9 (.tmp 12),9,none⟩,⟨some 14,.move (.tmp 4),27,none⟩,⟨some 15,.indexAddr 27 (.tmp 14) (.const (.int .i64 1)),0,none⟩,⟨some 16,.load 9 (.tmp 15),9,none⟩,⟨some 2,.assign (.tmp 13),9,none⟩] [⟨some 3,.assign (.tmp 16),9,none⟩]) (.ret)
@[simp] theorem yka:type_of% (zaa q133c0.eq_1):=zaa rfl
@[simp] def q133:QFn:=⟨17,[(.tmp 2,9),(.tmp 3,9)],.seq (.ops [oN 2 9,oN 3 9]) (.seq (.ops [oA 5 0 9,⟨some 6,.call {callee:=.value (.func 67),args:=#[.tmp 5,.const (.int .u8 32),.const (.int .i64 1)],argTypes:=#[9,5,3]},27,none⟩,oB 4 6 27]) (.seq (.seq (.ops [oA 7 4 27,oF 8 7 27 3,oAP 9 3 8 2 3 4]) (.cond (.tmp 9) (.seq (.ops [oA 10 0 9,oB 2 10 9,oN 3 9]) (.ret)) (.skip))) (q133c0)))⟩
theorem ykb:zao Tryz.f133=some q133:=by kernel_rfl
abbrev ykc:FuncId:=134
def q134c0:zac:=.block 1 (.ops [oA 31 4 3,oJ 32 3 31 1 3 3,oB 4 32 3])
@[simp] theorem ykd:type_of% (zaa q134c0.eq_1):=zaa rfl
def q134l0:zac:=.seq (.seq (.ops [oA 9 4 3,oA 10 0 9,oF 11 10 9 3,oL 12 3 9 11 3 4,oA 13 12 4,oO 14 0 9 13,oO 15 4 3 13,⟨some 16,.index 9 (.tmp 14) (.tmp 15),5,some (13,true)⟩,⟨some 17,.binOp .neq 5 (.tmp 16) (.const (.int .u8 61)) 5,4,some (13,true)⟩,oR 18 13 17 4,oA 19 18 4,oO 20 0 9 19,oO 21 4 3 19,⟨some 22,.index 9 (.tmp 20) (.tmp 21),5,some (19,true)⟩,⟨some 23,.binOp .neq 5 (.tmp 22) (.const (.int .u8 62)) 5,4,some (19,true)⟩,oR 24 19 23 4,oA 25 24 4,oO 26 0 9 25,oO 27 4 3 25,⟨some 28,.index 9 (.tmp 26) (.tmp 27),5,some (25,true)⟩,⟨some 29,.binOp .neq 5 (.tmp 28) (.const (.int .u8 60)) 5,4,some (25,true)⟩,oR 30 25 29 4]) (.cond (.tmp 30) (.skip) (.exit 0))) (q134c0)
@[simp] theorem yke:type_of% (zaa q134l0.eq_1):=zaa rfl
def q134c1:zac:=.ops [oA 42 7 3,oJ 43 3 42 1 3 3,oB 7 43 3]
@[simp] theorem ykf:type_of% (zaa q134c1.eq_1):=zaa rfl
def q134c2:zac:=.seq (.block 3 (.seq (.ops [oA 44 7 3,oI 45 162 44 3 9,oB 8 45 9]) (.seq (.ops [oA 46 6 9,oF 47 46 9 3,oA 48 8 9,oF 49 48 9 3,⟨some 50,.binOp .geq 3 (.tmp 47) (.tmp 49) 3,4,none⟩,oA 51 50 4,oO 52 6 9 51,oO 53 8 9 51,oAR 54 53 9 3 51,⟨some 55,.slice 9 (.tmp 52) none (some (.tmp 54)) none,9,some (51,true)⟩,oO 56 8 9 51,⟨some 57,.binOp .eql 9 (.tmp 55) (.tmp 56) 9,4,some (51,true)⟩,oR 58 51 57 4]) (.cond (.tmp 58) (.seq (.ops [oA 59 7 3,oD 60 94 5 1 0,oG 3 60 59 0]) (.ops [oA 61 6 9,oA 62 8 9,oF 63 62 9 3,⟨some 64,.slice 9 (.tmp 61) (some (.tmp 63)) none none,9,none⟩,oD 65 94 5 2 0,oG 9 65 64 0])) (.skip))))) (q134c1)
@[simp] theorem ykg:type_of% (zaa q134c2.eq_1):=zaa rfl
def q134l1:zac:=.seq (.seq (.ops [oA 40 7 3,⟨some 41,.binOp .leq 3 (.tmp 40) (.const (.int .i64 3)) 3,4,none⟩]) (.cond (.tmp 41) (.skip) (.exit 2))) (q134c2)
@[simp] theorem ykh:type_of% (zaa q134l1.eq_1):=zaa rfl
def q134c3:zac:=.seq (.draw [2] [⟨some 66,.load 94 (.tmp 5),94,none⟩,⟨some 67,.load 94 (.tmp 5),94,none⟩,⟨some 68,.call {callee:=.value (.func 161),args:=#[.tmp 67],argTypes:=#[94]},4,none⟩,⟨some 69,.move (.tmp 68),4,none⟩,⟨some 70,.load 94 (.tmp 5),94,some (69,true)⟩,⟨some 71,.call {callee:=.value (.func 130),args:=#[.tmp 70],argTypes:=#[94]},9,some (69,true)⟩,⟨some 72,.move (.tmp 0),9,some (69,true)⟩,⟨some 73,.binOp .eql 9 (.tmp 71) (.tmp 72) 9,4,some (69,true)⟩,⟨some 74,.pick (.tmp 69) (.tmp 73) (.const (.bool false)),4,none⟩,⟨none,.store 94 (.tmp 2) (.tmp 66),0,none⟩] [⟨some 3,.assign (.tmp 74),4,none⟩]) (.ret)
@[simp] theorem yki:type_of% (zaa q134c3.eq_1):=zaa rfl
def q134c4:zac:=.seq (.ops [oA 33 0 9,oA 34 4 3,⟨some 35,.slice 9 (.tmp 33) none (some (.tmp 34)) none,9,none⟩,⟨some 36,.build 94 #[(0,.tmp 35)],94,none⟩,oP 5 94 0,oG 94 5 36 0]) (.seq (.ops [oA 37 0 9,oA 38 4 3,⟨some 39,.slice 9 (.tmp 37) (some (.tmp 38)) none none,9,none⟩,oB 6 39 9]) (.seq (.seq (.ops [oH 7 1 3]) (.block 2 (.loop q134l1))) (q134c3)))
@[simp] theorem zqt:type_of% (zaa q134c4.eq_1):=zaa rfl
@[simp] def q134:QFn:=⟨75,[(.cell 2 94,94),(.tmp 3,4)],.seq (.ops [oP 2 94 0,oE 3 4]) (.seq (.ops [oH 4 0 3]) (.seq (.block 0 (.loop q134l0)) (q134c4)))⟩
theorem ykj:zao Tryz.f134=some q134:=by kernel_rfl
abbrev ykk:FuncId:=135
def q135c0:zac:=.seq (.ops [oA 11 0 9,oA 12 0 9,oF 13 12 9 3,oA 14 1 9,oF 15 14 9 3,⟨some 16,.binOp .sub 3 (.tmp 13) (.tmp 15) 3,3,none⟩,⟨some 17,.slice 9 (.tmp 11) none (some (.tmp 16)) none,9,none⟩,oB 4 17 9,oAB 5 4]) (.ret)
@[simp] theorem ykl:type_of% (zaa q135c0.eq_1):=zaa rfl
@[simp] def q135:QFn:=⟨18,[(.tmp 4,9),(.tmp 5,4)],.seq (.ops [oN 4 9,oE 5 4]) (.seq (.seq (.ops [oA 6 0 9,oA 7 1 9,oT 8 165 6 7 9 9 4,oU 9 4 8 4]) (.cond (.tmp 9) (.seq (.ops [oA 10 0 9,oB 4 10 9,oE 5 4]) (.ret)) (.skip))) (q135c0))⟩
theorem ykm:zao Tryz.f135=some q135:=by kernel_rfl
abbrev ykn:FuncId:=137
abbrev yko:FuncId:=138
def q138c0:zac:=.seq (.ops [oC 48 94 4 94,oG 94 2 48 0,oAB 3 4]) (.ret)
@[simp] theorem ykp:type_of% (zaa q138c0.eq_1):=zaa rfl
def q138c1:zac:=.seq (.seq (.ops [oC 44 94 4 94,oI 45 90 44 94 4,oU 46 4 45 4]) (.cond (.tmp 46) (.seq (.ops [⟨some 47,.build 94 #[],94,none⟩,oG 94 2 47 0,oE 3 4]) (.ret)) (.skip))) (q138c0)
@[simp] theorem ykq:type_of% (zaa q138c1.eq_1):=zaa rfl
@[simp] def q138:QFn:=⟨49,[(.cell 2 94,94),(.tmp 3,4)],.seq (.ops [oP 2 94 0,oE 3 4]) (.seq (.ops [oA 7 0 9,⟨some 8,.build 94 #[(0,.tmp 7)],94,none⟩,oP 4 94 0,oG 94 4 8 0]) (.seq (.seq (.ops [oA 9 0 9,⟨some 10,.call {callee:=.value (.func 170),args:=#[.tmp 9,.const (.string {data:=#[61,60,62]})],argTypes:=#[9,9]},3,none⟩,oB 5 10 3]) (.seq (.ops [oA 11 5 3,⟨some 12,.binOp .geq 3 (.tmp 11) (.const (.int .i64 0)) 3,4,none⟩]) (.cond (.tmp 12) (.seq (.ops [oA 13 0 9,oA 14 5 3,⟨some 15,.slice 9 (.tmp 13) none (some (.tmp 14)) none,9,none⟩,oD 16 94 4 0 0,oG 9 16 15 0]) (.seq (.ops [oA 17 0 9,oA 18 5 3,⟨some 19,.slice 9 (.tmp 17) (some (.tmp 18)) none none,9,none⟩,oB 6 19 9]) (.block 0 (.seq (.ops [oA 22 6 9,⟨some 23,.call {callee:=.value (.func 171),args:=#[.tmp 22,.const (.string {data:=#[62,61]})],argTypes:=#[9,9]},4,none⟩,oB 21 23 4]) (.cond (.tmp 21) (.seq (.ice [6]) (.draw [] [⟨some 24,.move (.tmp 6),9,none⟩,⟨some 25,.slice 9 (.tmp 24) (some (.const (.int .i64 2))) none none,9,none⟩] [⟨some 26,.fieldAddr 94 (.tmp 4) 1,0,none⟩,⟨none,.store 3 (.tmp 26) (.const (.int .i64 2)),0,none⟩,⟨some 27,.fieldAddr 94 (.tmp 4) 2,0,none⟩,⟨none,.store 9 (.tmp 27) (.tmp 25),0,none⟩])) (.seq (.ops [oA 29 6 9,⟨some 30,.index 9 (.tmp 29) (.const (.int .i64 0)),5,none⟩,⟨some 31,.binOp .eql 5 (.tmp 30) (.const (.int .u8 61)) 5,4,none⟩,oB 28 31 4]) (.cond (.tmp 28) (.seq (.ice [6]) (.draw [] [⟨some 32,.move (.tmp 6),9,none⟩,⟨some 33,.slice 9 (.tmp 32) (some (.const (.int .i64 1))) none none,9,none⟩] [⟨some 34,.fieldAddr 94 (.tmp 4) 1,0,none⟩,⟨none,.store 3 (.tmp 34) (.const (.int .i64 1)),0,none⟩,⟨some 35,.fieldAddr 94 (.tmp 4) 2,0,none⟩,⟨none,.store 9 (.tmp 35) (.tmp 33),0,none⟩])) (.seq (.ops [oA 37 6 9,⟨some 38,.index 9 (.tmp 37) (.const (.int .i64 0)),5,none⟩,⟨some 39,.binOp .eql 5 (.tmp 38) (.const (.int .u8 60)) 5,4,none⟩,oB 36 39 4]) (.cond (.tmp 36) (.seq (.ice [6]) (.draw [] [⟨some 40,.move (.tmp 6),9,none⟩,⟨some 41,.slice 9 (.tmp 40) (some (.const (.int .i64 1))) none none,9,none⟩] [⟨some 42,.fieldAddr 94 (.tmp 4) 1,0,none⟩,⟨none,.store 3 (.tmp 42) (.const (.int .i64 3)),0,none⟩,⟨some 43,.fieldAddr 94 (.tmp 4) 2,0,none⟩,⟨none,.store 9 (.tmp 43) (.tmp 41),0,none⟩])) (.seq (.ops [⟨some 20,.build 94 #[],94,none⟩,oG 94 2 20 0,oE 3 4]) (.ret))))))))))) (.skip)))) (q138c1)))⟩
theorem ykr:zao Tryz.f138=some q138:=by kernel_rfl
abbrev yks:FuncId:=139
@[simp] def q139:QFn:=⟨6,[(.tmp 2,9)],.seq (.ops [oN 2 9]) (.seq (.ops [oA 3 0 58,⟨some 4,.buildSlice 27 8 #[(0,.const (.string {data:=#[49]})),(1,.const (.string {data:=#[49,46,48]})),(2,.const (.string {data:=#[49,46,49]})),(3,.const (.string {data:=#[49,46,50]})),(4,.const (.string {data:=#[50]})),(5,.const (.string {data:=#[48,46,57,46,57]})),(6,.const (.string {data:=#[49,46,49,48]})),(7,.const (.string {data:=#[57,57,57,46,57,57,57,46,57,57,57,46,57,57,57]}))],27,none⟩,oT 5 79 3 4 58 27 9,oB 2 5 9]) (.ret))⟩
theorem ykt:zao Tryz.f139=some q139:=by kernel_rfl
abbrev yku:FuncId:=140
def q140c0:zac:=.ops [oA 10 4 3,oAT 11 3 10 1 3 3,oB 4 11 3]
@[simp] theorem ykv:type_of% (zaa q140c0.eq_1):=zaa rfl
def q140c1:zac:=.seq (.block 1 (.ops [oA 12 3 27,oA 13 0 58,oAZ 14 27 16 0 1 2 3 4 5 6 7 8 9 10 11 12 13 14 15 27,oT 15 79 13 14 58 27 9,oY 16 27 1 0 15 27,oV 17 12 16 27 27 27,oB 3 17 27])) (q140c0)
@[simp] theorem ykw:type_of% (zaa q140c1.eq_1):=zaa rfl
def q140l0:zac:=.seq (.seq (.ops [oA 8 4 3,oAL 9 3 8 0 3 4]) (.cond (.tmp 9) (.skip) (.exit 0))) (q140c1)
@[simp] theorem ykx:type_of% (zaa q140l0.eq_1):=zaa rfl
def q140c2:zac:=.seq (.ops [oA 18 3 27,oB 2 18 27]) (.ret)
@[simp] theorem yky:type_of% (zaa q140c2.eq_1):=zaa rfl
@[simp] def q140:QFn:=⟨19,[(.tmp 2,27)],.seq (.ops [oAF 2 27]) (.seq (.ops [⟨some 5,.buildSlice 27 0 #[],27,none⟩,oB 3 5 27]) (.seq (.seq (.ops [oA 6 0 58,oAG 7 80 6 7 58 3 3,oB 4 7 3]) (.block 0 (.loop q140l0))) (q140c2)))⟩
theorem ykz:zao Tryz.f140=some q140:=by kernel_rfl
abbrev ydt:FuncId:=141
def q141c0:zac:=.seq (.ops [oA 26 3 23,oB 2 26 23]) (.ret)
@[simp] theorem yk0:type_of% (zaa q141c0.eq_1):=zaa rfl
def q141c1:zac:=.seq (.seq (.ops [oA 15 0 58,oAG 16 80 15 2 58 3 3,oW 17 3 16 0 3 4]) (.cond (.tmp 17) (.ops [oA 18 3 23,oA 19 0 58,⟨some 20,.call {callee:=.value (.func 144),args:=#[.const (.string {data:=#[108]}),.const (.int .i64 80)],argTypes:=#[9,3]},9,none⟩,⟨some 21,.buildSlice 27 5 #[(0,.const (.string {data:=#[100,111,99]})),(1,.const (.string {data:=#[108,105,98,47,36,123,110,97,109,101,125]})),(2,.const (.string {data:=#[36,123,100,105,114,125]})),(3,.const (.string {data:=#[120]})),(4,.tmp 20)],27,none⟩,oT 22 79 19 21 58 27 9,⟨some 23,.build 33 #[(0,.const (.string {data:=#[98,97,115,101]})),(1,.tmp 22)],33,none⟩,oY 24 23 1 0 23 23,oV 25 18 24 23 23 23,oB 3 25 23]) (.skip))) (q141c0)
@[simp] theorem z2i:type_of% (zaa q141c1.eq_1):=zaa rfl
@[simp] def q141:QFn:=⟨27,[(.tmp 2,23)],.seq (.ops [oAF 2 23]) (.seq (.ops [⟨some 4,.buildSlice 23 0 #[],23,none⟩,oB 3 4 23]) (.seq (.seq (.ops [oA 5 0 58,oAG 6 80 5 2 58 3 3,oW 7 3 6 0 3 4]) (.cond (.tmp 7) (.ops [oA 8 3 23,oA 9 0 58,⟨some 10,.buildSlice 27 4 #[(0,.const (.string {data:=#[108,105,98]})),(1,.const (.string {data:=#[97]})),(2,.const (.string {data:=#[36,123,98,97,115,101,125]})),(3,.const (.string {data:=#[36,123,110,97,109,101,125]}))],27,none⟩,oT 11 79 9 10 58 27 9,⟨some 12,.build 33 #[(0,.const (.string {data:=#[100,105,114]})),(1,.tmp 11)],33,none⟩,oY 13 23 1 0 12 23,oV 14 8 13 23 23 23,oB 3 14 23]) (.skip))) (q141c1)))⟩
theorem yk1:zao Tryz.f141=some q141:=by kernel_rfl
abbrev yk2:FuncId:=142
@[simp] def q142:QFn:=⟨7,[(.tmp 2,9)],.seq (.ops [oN 2 9]) (.seq (.ops [oA 3 0 9,oI 4 173 3 9 9,oI 5 172 4 9 9,⟨some 6,.slice 9 (.tmp 5) none (some (.const (.int .i64 16))) none,9,none⟩,oB 2 6 9]) (.ret))⟩
theorem yk3:zao Tryz.f142=some q142:=by kernel_rfl
abbrev yk4:FuncId:=143
@[simp] def q143:QFn:=⟨7,[(.tmp 2,9)],.seq (.ops [oN 2 9]) (.seq (.ops [oA 3 0 58,⟨some 4,.call {callee:=.value (.func 144),args:=#[.const (.string {data:=#[116]}),.const (.int .i64 80)],argTypes:=#[9,3]},9,none⟩,⟨some 5,.buildSlice 27 6 #[(0,.const (.string {data:=#[]})),(1,.const (.string {data:=#[111,110,101,10]})),(2,.const (.string {data:=#[111,110,101,10,116,119,111,10,116,104,114,101,101,10]})),(3,.const (.string {data:=#[110,111,32,101,110,100]})),(4,.const (.string {data:=#[97,10,98,10,99,10,100,10,101,10,102,10,103,10]})),(5,.tmp 4)],27,none⟩,oT 6 79 3 5 58 27 9,oB 2 6 9]) (.ret))⟩
theorem yk5:zao Tryz.f143=some q143:=by kernel_rfl
abbrev ydu:FuncId:=144
def q144c0:zac:=.seq (.ops [oA 14 0 9,oA 15 0 9,oAH 16 9 14 15 9 9,oB 0 16 9]) (.ops [oA 17 1 3,⟨some 18,.binOp .quo 3 (.tmp 17) (.const (.int .i64 2)) 3,3,none⟩,oB 1 18 3])
@[simp] theorem yk6:type_of% (zaa q144c0.eq_1):=zaa rfl
def q144c1:zac:=.block 1 (.seq (.seq (.ops [oA 8 1 3,⟨some 9,.binOp .rem 3 (.tmp 8) (.const (.int .i64 2)) 3,3,none⟩,oW 10 3 9 1 3 4]) (.cond (.tmp 10) (.ops [oA 11 5 9,oA 12 0 9,oAH 13 9 11 12 9 9,oB 5 13 9]) (.skip))) (q144c0))
@[simp] theorem yk7:type_of% (zaa q144c1.eq_1):=zaa rfl
def q144l0:zac:=.seq (.seq (.ops [oA 6 1 3,oAL 7 3 6 0 3 4]) (.cond (.tmp 7) (.skip) (.exit 0))) (q144c1)
@[simp] theorem yk8:type_of% (zaa q144l0.eq_1):=zaa rfl
def q144c2:zac:=.seq (.ops [oA 19 5 9,oB 4 19 9]) (.ret)
@[simp] theorem yk9:type_of% (zaa q144c2.eq_1):=zaa rfl
@[simp] def q144:QFn:=⟨20,[(.tmp 4,9)],.seq (.ops [oN 4 9]) (.seq (.ops [oN 5 9]) (.seq (.block 0 (.loop q144l0)) (q144c2)))⟩
theorem yla:zao Tryz.f144=some q144:=by kernel_rfl
abbrev ylb:FuncId:=145
@[simp] def q145:QFn:=⟨6,[(.tmp 2,9)],.seq (.ops [oN 2 9]) (.seq (.ops [oA 3 0 58,oBA 4 27 16 0 1 2 3 4 5 6 7 8 9 10 11 12 13 14 15 27,oT 5 79 3 4 58 27 9,oB 2 5 9]) (.ret))⟩
theorem ylc:zao Tryz.f145=some q145:=by kernel_rfl
abbrev yld:FuncId:=146
def q146c0:zac:=.ops [oC 23 167 4 167,oA 24 6 3,oY 25 167 1 0 24 167,oV 26 23 25 167 167 167,oG 167 4 26 0]
@[simp] theorem yle:type_of% (zaa q146c0.eq_1):=zaa rfl
def q146c1:zac:=.seq (.ops [oC 27 167 4 167,oG 167 2 27 0,⟨none,.store 4 (.tmp 3) (.const (.bool true)),0,none⟩]) (.ret)
@[simp] theorem ylf:type_of% (zaa q146c1.eq_1):=zaa rfl
@[simp] def q146:QFn:=⟨28,[(.cell 2 167,167),(.cell 3 4,4)],.seq (.ops [oP 2 167 0,oP 3 4 0]) (.seq (.ops [oP 4 167 0]) (.seq (.seq (.ops [oA 8 0 9,⟨some 9,.call {callee:=.value (.func 70),args:=#[.tmp 8,.const (.string {data:=#[46]})],argTypes:=#[9,9]},104,none⟩]) (.block 0 (.range 9 [10] (.ops [oB 5 10 9]) (.block 1 (.seq (.ops [oA 12 5 9,oAG 13 174 12 999 9 3 186,oA 11 13 186,oM 14 11 0 3,oM 15 11 1 4,oB 6 14 3,oB 7 15 4]) (.seq (.seq (.ops [oA 16 7 4,oU 17 4 16 4,oA 18 17 4,oX 19 167 4 167 18,oAM 20 19 167 3 18,⟨some 21,.binOp .eql 3 (.tmp 20) (.const (.int .i64 4)) 3,4,some (18,false)⟩,oQ 22 18 21 4]) (.cond (.tmp 22) (.seq (.ops [⟨none,.store 167 (.tmp 2) (.const (.slice none 0 0)),0,none⟩,⟨none,.store 4 (.tmp 3) (.const (.bool false)),0,none⟩]) (.ret)) (.skip))) (q146c0))))))) (q146c1)))⟩
theorem ylg:zao Tryz.f146=some q146:=by kernel_rfl
abbrev ylh:FuncId:=147
@[simp] def q147:QFn:=⟨18,[(.tmp 2,4)],.seq (.ops [oE 2 4]) (.seq (.ops [oA 3 0 9,oF 4 3 9 3,⟨some 5,.binOp .leq 3 (.tmp 4) (.const (.int .i64 10)) 3,4,none⟩,oA 6 5 4,oO 7 0 9 6,⟨some 8,.binOp .neq 9 (.tmp 7) (.const (.string {data:=#[46]})) 9,4,some (6,true)⟩,oR 9 6 8 4,oA 10 9 4,oO 11 0 9 10,⟨some 12,.binOp .neq 9 (.tmp 11) (.const (.string {data:=#[46,46]})) 9,4,some (10,true)⟩,oR 13 10 12 4,oA 14 13 4,oO 15 0 9 14,oAO 16 175 15 9 4 14,oR 17 14 16 4,oB 2 17 4]) (.ret))⟩
theorem yli:zao Tryz.f147=some q147:=by kernel_rfl
abbrev ylj:FuncId:=148
def q148c0:zac:=.ops [oJ 34 3 9 1 3 3,oA 9 34 3]
@[simp] theorem ylk:type_of% (zaa q148c0.eq_1):=zaa rfl
def q148c1:zac:=.seq (.block 1 (.seq (.ops [oA 11 9 3,oB 3 11 3]) (.seq (.ops [oA 12 0 9,oA 13 3 3,oAK 14 9 12 13 5,⟨some 15,.binOp .lss 5 (.tmp 14) (.const (.int .u8 48)) 5,4,none⟩,oA 16 15 4,oK 17 0 9 16,oK 18 3 3 16,oAQ 19 9 17 18 5 16,oAV 20 5 19 57 5 4 16,oQ 21 16 20 4,oA 22 21 4,oO 23 0 9 22,oO 24 3 3 22,⟨some 25,.index 9 (.tmp 23) (.tmp 24),5,some (22,true)⟩,⟨some 26,.binOp .lss 5 (.tmp 25) (.const (.int .u8 97)) 5,4,some (22,true)⟩,oO 27 26 4 22,oK 28 0 9 27,oK 29 3 3 27,oAQ 30 9 28 29 5 27,oAV 31 5 30 102 5 4 27,⟨some 32,.pick (.tmp 27) (.const (.bool true)) (.tmp 31),4,some (22,true)⟩,oR 33 22 32 4]) (.cond (.tmp 33) (.seq (.ops [oE 2 4]) (.ret)) (.skip))))) (q148c0)
@[simp] theorem yll:type_of% (zaa q148c1.eq_1):=zaa rfl
def q148l0:zac:=.seq (.ops [oL 10 3 9 8 3 4]) (.seq (.cond (.tmp 10) (.skip) (.exit 0)) (q148c1))
@[simp] theorem ylm:type_of% (zaa q148l0.eq_1):=zaa rfl
def q148c2:zac:=.seq (.ops [oAB 2 4]) (.ret)
@[simp] theorem yln:type_of% (zaa q148c2.eq_1):=zaa rfl
def q148c3:zac:=.seq (.seq (.ops [oA 7 0 9,oF 8 7 9 3,oAC 9 0 3]) (.block 0 (.loop q148l0))) (q148c2)
@[simp] theorem ylo:type_of% (zaa q148c3.eq_1):=zaa rfl
@[simp] def q148:QFn:=⟨35,[(.tmp 2,4)],.seq (.ops [oE 2 4]) (.seq (.seq (.ops [oA 4 0 9,oF 5 4 9 3,oAS 6 3 5 16 3 4]) (.cond (.tmp 6) (.seq (.ops [oE 2 4]) (.ret)) (.skip))) (q148c3))⟩
theorem ylp:zao Tryz.f148=some q148:=by kernel_rfl
abbrev ylq:FuncId:=149
@[simp] def q149:QFn:=⟨11,[(.tmp 2,4)],.seq (.ops [oE 2 4]) (.seq (.ops [oA 6 0 9,oI 7 176 6 9 189,oA 5 7 189,oM 8 5 0 188,oM 9 5 1 4,oB 3 8 188,oB 4 9 4]) (.seq (.ops [oA 10 4 4,oB 2 10 4]) (.ret)))⟩
theorem ylr:zao Tryz.f149=some q149:=by kernel_rfl
abbrev yls:FuncId:=150
def q150c0:zac:=.ops [oJ 17 3 9 1 3 3,oA 9 17 3]
@[simp] theorem ylt:type_of% (zaa q150c0.eq_1):=zaa rfl
def q150c1:zac:=.seq (.block 1 (.seq (.ops [oA 11 9 3,oB 3 11 3]) (.seq (.ops [oA 12 0 9,oA 13 3 3,oAK 14 9 12 13 5,oI 15 177 14 5 4,oU 16 4 15 4]) (.cond (.tmp 16) (.seq (.ops [oE 2 4]) (.ret)) (.skip))))) (q150c0)
@[simp] theorem ylu:type_of% (zaa q150c1.eq_1):=zaa rfl
def q150l0:zac:=.seq (.ops [oL 10 3 9 8 3 4]) (.seq (.cond (.tmp 10) (.skip) (.exit 0)) (q150c1))
@[simp] theorem ylv:type_of% (zaa q150l0.eq_1):=zaa rfl
def q150c2:zac:=.seq (.ops [oAB 2 4]) (.ret)
@[simp] theorem ylw:type_of% (zaa q150c2.eq_1):=zaa rfl
def q150c3:zac:=.seq (.seq (.ops [oA 7 0 9,oF 8 7 9 3,oAC 9 0 3]) (.block 0 (.loop q150l0))) (q150c2)
@[simp] theorem ylx:type_of% (zaa q150c3.eq_1):=zaa rfl
@[simp] def q150:QFn:=⟨18,[(.tmp 2,4)],.seq (.ops [oE 2 4]) (.seq (.seq (.ops [oA 4 0 9,oF 5 4 9 3,oAL 6 3 5 80 3 4]) (.cond (.tmp 6) (.seq (.ops [oE 2 4]) (.ret)) (.skip))) (q150c3))⟩
theorem yly:zao Tryz.f150=some q150:=by kernel_rfl
abbrev z5t:FuncId:=151
def q151c0:zac:=.seq (.ops [⟨some 5,.buildSlice 27 0 #[],27,none⟩,oA 6 0 27,oV 7 5 6 27 27 27,oB 2 7 27]) (.ret)
@[simp] theorem ylz:type_of% (zaa q151c0.eq_1):=zaa rfl
@[simp] def q151:QFn:=⟨8,[(.tmp 2,27)],.seq (.ops [oAF 2 27]) (.seq (.seq (.ops [oA 3 0 27,⟨some 4,.binOp .eql 27 (.tmp 3) (.const (.slice none 0 0)) 27,4,none⟩]) (.cond (.tmp 4) (.seq (.ops [oAF 2 27]) (.ret)) (.skip))) (q151c0))⟩
theorem z9t:zao Tryz.f151=some q151:=by kernel_rfl
abbrev yl0:FuncId:=152
@[simp] def q152:QFn:=⟨9,[(.tmp 4,4)],.seq (.ops [oE 4 4]) (.seq (.ops [oA 5 0 27,oA 6 1 9,oT 7 178 5 6 27 9 3,⟨some 8,.binOp .geq 3 (.tmp 7) (.const (.int .i64 0)) 3,4,none⟩,oB 4 8 4]) (.ret))⟩
theorem yl1:zao Tryz.f152=some q152:=by kernel_rfl
abbrev yl2:FuncId:=153
@[simp] def q153:QFn:=⟨6,[(.tmp 2,4)],.seq (.ops [oZ 1 33 0 0,oE 2 4]) (.seq (.ops [oC 3 33 1 33,oI 4 88 3 33 4,oU 5 4 4 4,oB 2 5 4]) (.ret))⟩
theorem yl3:zao Tryz.f153=some q153:=by kernel_rfl
abbrev yl4:FuncId:=154
@[simp] def q154:QFn:=⟨9,[(.tmp 4,4)],.seq (.ops [oE 4 4]) (.seq (.ops [oA 5 0 23,oA 6 1 115,oT 7 179 5 6 23 115 3,⟨some 8,.binOp .geq 3 (.tmp 7) (.const (.int .i64 0)) 3,4,none⟩,oB 4 8 4]) (.ret))⟩
theorem yl5:zao Tryz.f154=some q154:=by kernel_rfl
abbrev yl6:FuncId:=155
def q155c0:zac:=.ops [oA 50 9 9,oB 1 50 9]
@[simp] theorem yl7:type_of% (zaa q155c0.eq_1):=zaa rfl
def q155c1:zac:=.seq (.ops [oA 38 6 9,oA 39 1 9,oA 40 7 3,⟨some 41,.slice 9 (.tmp 39) none (some (.tmp 40)) none,9,none⟩,oA 42 11 9,oAH 43 9 41 42 9 9,oAH 44 9 38 43 9 9,oB 6 44 9]) (.seq (.seq (.ops [oA 45 6 9,oF 46 45 9 3,oAL 47 3 46 80 3 4]) (.cond (.tmp 47) (.seq (.ops [⟨some 48,.build 195 #[(0,.const (.int .i64 5))],195,none⟩,⟨some 49,.makeInterface 195 (.tmp 48),88,none⟩,oN 4 9,oB 5 49 88]) (.ret)) (.skip))) (q155c0))
@[simp] theorem yl8:type_of% (zaa q155c1.eq_1):=zaa rfl
def q155c2:zac:=.seq (.ops [oA 30 0 193,oA 31 8 9,oT 32 181 30 31 193 9 173,oA 29 32 173,oM 33 29 0 9,oM 34 29 1 88,oB 11 33 9,oB 12 34 88]) (.seq (.seq (.ops [oA 35 12 88,⟨some 36,.binOp .neq 88 (.tmp 35) (.const .nilIface) 88,4,none⟩]) (.cond (.tmp 36) (.seq (.ops [oA 37 12 88,oN 4 9,oB 5 37 88]) (.ret)) (.skip))) (q155c1))
@[simp] theorem yl9:type_of% (zaa q155c2.eq_1):=zaa rfl
def q155c3:zac:=.seq (.ops [oA 18 1 9,oA 19 7 3,⟨some 20,.slice 9 (.tmp 18) (some (.tmp 19)) none none,9,none⟩,oI 21 180 20 9 134,oA 17 21 134,oM 22 17 0 9,oM 23 17 1 9,oM 24 17 2 4,oB 8 22 9,oB 9 23 9,oB 10 24 4]) (.seq (.seq (.ops [oA 25 10 4,oU 26 4 25 4]) (.cond (.tmp 26) (.seq (.ops [⟨some 27,.build 195 #[(0,.const (.int .i64 1))],195,none⟩,⟨some 28,.makeInterface 195 (.tmp 27),88,none⟩,oN 4 9,oB 5 28 88]) (.ret)) (.skip))) (q155c2))
@[simp] theorem yma:type_of% (zaa q155c3.eq_1):=zaa rfl
def q155l0:zac:=.block 1 (.seq (.ops [oA 13 1 9,⟨some 14,.call {callee:=.value (.func 168),args:=#[.tmp 13,.const (.string {data:=#[36,123]})],argTypes:=#[9,9]},3,none⟩,oB 7 14 3]) (.seq (.seq (.ops [oA 15 7 3,oAP 16 3 15 0 3 4]) (.cond (.tmp 16) (.exit 0) (.skip))) (q155c3)))
@[simp] theorem ymb:type_of% (zaa q155l0.eq_1):=zaa rfl
def q155c4:zac:=.seq (.ops [oA 59 6 9,oB 4 59 9,⟨some 5,.assign (.const .nilIface),88,none⟩]) (.ret)
@[simp] theorem ymc:type_of% (zaa q155c4.eq_1):=zaa rfl
def q155c5:zac:=.seq (.ops [oA 51 6 9,oA 52 1 9,oAH 53 9 51 52 9 9,oB 6 53 9]) (.seq (.seq (.ops [oA 54 6 9,oF 55 54 9 3,oAL 56 3 55 80 3 4]) (.cond (.tmp 56) (.seq (.ops [⟨some 57,.build 195 #[(0,.const (.int .i64 5))],195,none⟩,⟨some 58,.makeInterface 195 (.tmp 57),88,none⟩,oN 4 9,oB 5 58 88]) (.ret)) (.skip))) (q155c4))
@[simp] theorem ymd:type_of% (zaa q155c5.eq_1):=zaa rfl
@[simp] def q155:QFn:=⟨60,[(.tmp 4,9),(.tmp 5,88)],.seq (.ops [oN 4 9,⟨some 5,.assign (.const .nilIface),88,none⟩]) (.seq (.ops [oN 6 9]) (.seq (.block 0 (.loop q155l0)) (q155c5)))⟩
theorem yme:zao Tryz.f155=some q155:=by kernel_rfl
abbrev ymf:FuncId:=157
@[simp] def q157:QFn:=⟨29,[(.tmp 2,4)],.seq (.ops [oE 2 4]) (.seq (.ops [oA 3 0 5,⟨some 4,.binOp .geq 5 (.tmp 3) (.const (.int .u8 97)) 5,4,none⟩,oA 5 4 4,oO 6 0 5 5,oAW 7 5 6 122 5 4 5,oR 8 5 7 4,oA 9 8 4,oK 10 0 5 9,⟨some 11,.binOp .geq 5 (.tmp 10) (.const (.int .u8 48)) 5,4,some (9,false)⟩,oK 12 11 4 9,oO 13 0 5 12,oAW 14 5 13 57 5 4 12,oAU 15 12 14 4 9,oQ 16 9 15 4,oA 17 16 4,oK 18 0 5 17,⟨some 19,.binOp .eql 5 (.tmp 18) (.const (.int .u8 46)) 5,4,some (17,false)⟩,oQ 20 17 19 4,oA 21 20 4,oK 22 0 5 21,⟨some 23,.binOp .eql 5 (.tmp 22) (.const (.int .u8 95)) 5,4,some (21,false)⟩,oQ 24 21 23 4,oA 25 24 4,oK 26 0 5 25,⟨some 27,.binOp .eql 5 (.tmp 26) (.const (.int .u8 45)) 5,4,some (25,false)⟩,oQ 28 25 27 4,oB 2 28 4]) (.ret))⟩
theorem ymg:zao Tryz.f157=some q157:=by kernel_rfl
abbrev ymh:FuncId:=158
@[simp] def q158:QFn:=⟨15,[(.tmp 6,4)],.seq (.ops [oE 6 4]) (.seq (.ops [oA 7 0 3,oA 8 1 3,⟨some 9,.binOp .geq 3 (.tmp 7) (.tmp 8) 3,4,none⟩,oA 10 9 4,oO 11 0 3 10,oO 12 2 3 10,⟨some 13,.binOp .leq 3 (.tmp 11) (.tmp 12) 3,4,some (10,true)⟩,oR 14 10 13 4,oB 6 14 4]) (.ret))⟩
theorem ymi:zao Tryz.f158=some q158:=by kernel_rfl
abbrev ymj:FuncId:=159
def q159c0:zac:=.ops [oA 22 3 3,oA 23 4 3,oAH 24 3 22 23 3 3,oAT 25 3 24 1 3 3,oB 3 25 3]
@[simp] theorem ymk:type_of% (zaa q159c0.eq_1):=zaa rfl
def q159c1:zac:=.ops [oA 9 3 3,oJ 10 3 9 1 3 3,oB 3 10 3]
@[simp] theorem yml:type_of% (zaa q159c1.eq_1):=zaa rfl
def q159c2:zac:=.seq (.block 1 (.block 2 (.seq (.ops [oA 12 0 9,oA 13 3 3,oAK 14 9 12 13 5,⟨some 15,.binOp .eql 5 (.tmp 14) (.const (.int .u8 91)) 5,4,none⟩,oB 11 15 4]) (.cond (.tmp 11) (.seq (.ops [oA 16 0 9,oA 17 3 3,⟨some 18,.slice 9 (.tmp 16) (some (.tmp 17)) none none,9,none⟩,oI 19 183 18 9 3,oB 4 19 3]) (.seq (.seq (.ops [oA 20 4 3,oW 21 3 20 0 3 4]) (.cond (.tmp 21) (.seq (.ops [oE 2 4]) (.ret)) (.skip))) (q159c0))) (.seq (.ops [oA 27 0 9,oA 28 3 3,oAK 29 9 27 28 5,⟨some 30,.binOp .eql 5 (.tmp 29) (.const (.int .u8 42)) 5,4,none⟩,oA 31 30 4,oK 32 0 9 31,oK 33 3 3 31,oAQ 34 9 32 33 5 31,⟨some 35,.binOp .eql 5 (.tmp 34) (.const (.int .u8 63)) 5,4,some (31,false)⟩,oQ 36 31 35 4,oB 26 36 4]) (.cond (.tmp 26) (.exit 1) (.seq (.ops [oA 38 0 9,oA 39 3 3,oAK 40 9 38 39 5,oI 41 157 40 5 4,oU 42 4 41 4,oB 37 42 4]) (.cond (.tmp 37) (.seq (.ops [oE 2 4]) (.ret)) (.skip))))))))) (q159c1)
@[simp] theorem ymm:type_of% (zaa q159c2.eq_1):=zaa rfl
def q159l0:zac:=.seq (.seq (.ops [oA 5 3 3,oA 6 0 9,oF 7 6 9 3,oL 8 3 5 7 3 4]) (.cond (.tmp 8) (.skip) (.exit 0))) (q159c2)
@[simp] theorem ymn:type_of% (zaa q159l0.eq_1):=zaa rfl
def q159c3:zac:=.seq (.ops [oA 43 0 9,⟨some 44,.binOp .neq 9 (.tmp 43) (.const (.string {data:=#[]})) 9,4,none⟩,oB 2 44 4]) (.ret)
@[simp] theorem ymo:type_of% (zaa q159c3.eq_1):=zaa rfl
@[simp] def q159:QFn:=⟨45,[(.tmp 2,4)],.seq (.ops [oE 2 4]) (.seq (.seq (.ops [oH 3 0 3]) (.block 0 (.loop q159l0))) (q159c3))⟩
theorem ymp:zao Tryz.f159=some q159:=by kernel_rfl
abbrev ymq:FuncId:=160
def q160c0:zac:=.ops [oA 29 5 166,oA 30 7 3,oY 31 166 1 0 30 166,oV 32 29 31 166 166 166,oB 5 32 166]
@[simp] theorem ymr:type_of% (zaa q160c0.eq_1):=zaa rfl
def q160c1:zac:=.ops [oA 18 6 3,oJ 19 3 18 1 3 3,oB 6 19 3]
@[simp] theorem yms:type_of% (zaa q160c1.eq_1):=zaa rfl
def q160c2:zac:=.seq (.block 1 (.seq (.ops [oA 20 4 27,oA 21 6 3,oS 22 27 20 21 0,oC 23 9 22 9,oI 24 184 23 9 3,oB 7 24 3]) (.seq (.seq (.ops [oA 25 7 3,oAY 26 158 25 0 999 3 3 3 4,oU 27 4 26 4]) (.cond (.tmp 27) (.seq (.ops [oA 28 5 166,oB 2 28 166,oE 3 4]) (.ret)) (.skip))) (q160c0)))) (q160c1)
@[simp] theorem ymt:type_of% (zaa q160c2.eq_1):=zaa rfl
def q160l0:zac:=.seq (.seq (.ops [oA 14 6 3,oA 15 4 27,oF 16 15 27 3,oL 17 3 14 16 3 4]) (.cond (.tmp 17) (.skip) (.exit 0))) (q160c2)
@[simp] theorem ymu:type_of% (zaa q160l0.eq_1):=zaa rfl
def q160c3:zac:=.seq (.ops [oA 33 5 166,oA 34 4 27,oF 35 34 27 3,⟨some 36,.binOp .leq 3 (.tmp 35) (.const (.int .i64 4)) 3,4,none⟩,oB 2 33 166,oB 3 36 4]) (.ret)
@[simp] theorem ymv:type_of% (zaa q160c3.eq_1):=zaa rfl
@[simp] def q160:QFn:=⟨37,[(.tmp 2,166),(.tmp 3,4)],.seq (.ops [oAF 2 166,oE 3 4]) (.seq (.ops [oA 8 0 9,oA 9 0 9,oF 10 9 9 3,oJ 11 3 10 1 3 3,⟨some 12,.call {callee:=.value (.func 67),args:=#[.tmp 8,.const (.int .u8 46),.tmp 11],argTypes:=#[9,5,3]},27,none⟩,oB 4 12 27]) (.seq (.ops [⟨some 13,.buildSlice 166 0 #[],166,none⟩,oB 5 13 166]) (.seq (.seq (.ops [oH 6 0 3]) (.block 0 (.loop q160l0))) (q160c3))))⟩
theorem ymw:zao Tryz.f160=some q160:=by kernel_rfl
abbrev ymx:FuncId:=161
@[simp] def q161:QFn:=⟨26,[(.tmp 2,4)],.seq (.ops [oZ 1 94 0 0,oE 2 4]) (.seq (.ops [oD 3 94 1 0 0,oC 4 9 3 9,oI 5 109 4 9 4,oA 6 5 4,oAI 7 94 1 1 0 6,oAD 8 3 7 3 6,⟨some 9,.binOp .eql 3 (.tmp 8) (.const (.int .i64 0)) 3,4,some (6,true)⟩,oO 10 9 4 6,oAI 11 94 1 2 0 10,oAD 12 9 11 9 10,⟨some 13,.binOp .eql 9 (.tmp 12) (.const (.string {data:=#[]})) 9,4,some (10,true)⟩,⟨some 14,.pick (.tmp 10) (.tmp 13) (.const (.bool false)),4,some (6,true)⟩,oO 15 14 4 6,oAA 16 94 1 1 0 15,oX 17 3 16 3 15,⟨some 18,.call {callee:=.value (.func 158),args:=#[.tmp 17,.const (.int .i64 1),.const (.int .i64 3)],argTypes:=#[3,3,3]},4,some (15,false)⟩,oK 19 18 4 15,oAI 20 94 1 2 0 19,oAD 21 9 20 9 19,oAO 22 112 21 9 4 19,oAU 23 19 22 4 15,⟨some 24,.pick (.tmp 15) (.const (.bool true)) (.tmp 23),4,some (6,true)⟩,oR 25 6 24 4,oB 2 25 4]) (.ret))⟩
theorem ymy:zao Tryz.f161=some q161:=by kernel_rfl
abbrev ymz:FuncId:=162
def q162c0:zac:=.seq (.ops [oN 2 9]) (.ret)
@[simp] theorem ym0:type_of% (zaa q162c0.eq_1):=zaa rfl
@[simp] def q162:QFn:=⟨10,[(.tmp 2,9)],.seq (.ops [oN 2 9]) (.seq (.seq (.ops [oA 3 0 3]) (.block 0 (.seq (.ops [oW 5 3 3 1 3 4,oB 4 5 4]) (.cond (.tmp 4) (.seq (.ops [⟨some 2,.assign (.const (.string {data:=#[61]})),9,none⟩]) (.ret)) (.seq (.ops [oW 7 3 3 2 3 4,oB 6 7 4]) (.cond (.tmp 6) (.seq (.ops [⟨some 2,.assign (.const (.string {data:=#[62,61]})),9,none⟩]) (.ret)) (.seq (.ops [oW 9 3 3 3 3 4,oB 8 9 4]) (.cond (.tmp 8) (.seq (.ops [⟨some 2,.assign (.const (.string {data:=#[60]})),9,none⟩]) (.ret)) (.skip))))))))) (q162c0))⟩
theorem ym1:zao Tryz.f162=some q162:=by kernel_rfl
abbrev ydv:FuncId:=165
@[simp] def q165:QFn:=⟨21,[(.tmp 4,4)],.seq (.ops [oE 4 4]) (.seq (.ops [oA 5 0 9,oF 6 5 9 3,oA 7 1 9,oF 8 7 9 3,⟨some 9,.binOp .geq 3 (.tmp 6) (.tmp 8) 3,4,none⟩,oA 10 9 4,oO 11 0 9 10,oO 12 0 9 10,oAR 13 12 9 3 10,oO 14 1 9 10,oAR 15 14 9 3 10,⟨some 16,.binOp .sub 3 (.tmp 13) (.tmp 15) 3,3,some (10,true)⟩,⟨some 17,.slice 9 (.tmp 11) (some (.tmp 16)) none none,9,some (10,true)⟩,oO 18 1 9 10,⟨some 19,.binOp .eql 9 (.tmp 17) (.tmp 18) 9,4,some (10,true)⟩,oR 20 10 19 4,oB 4 20 4]) (.ret))⟩
theorem ydw:zao Tryz.f165=some q165:=by kernel_rfl
abbrev ym2:FuncId:=171
@[simp] def q171:QFn:=⟨8,[(.tmp 4,4)],.seq (.ops [oE 4 4]) (.seq (.ops [oA 5 0 9,oA 6 1 9,oT 7 192 5 6 9 9 4,oB 4 7 4]) (.ret))⟩
theorem ym3:zao Tryz.f171=some q171:=by kernel_rfl
abbrev ydx:FuncId:=172
def q172c0:zac:=.ops [oA 11 5 3,oJ 12 3 11 1 3 3,oB 5 12 3]
@[simp] theorem ym4:type_of% (zaa q172c0.eq_1):=zaa rfl
def q172c1:zac:=.seq (.block 1 (.draw [] [⟨some 13,.move (.tmp 4),22,none⟩,⟨some 14,.move (.tmp 3),9,none⟩,⟨some 15,.move (.tmp 0),9,none⟩,⟨some 16,.move (.tmp 5),3,none⟩,⟨some 17,.index 9 (.tmp 15) (.tmp 16),5,none⟩,⟨some 18,.binOp .quo 5 (.tmp 17) (.const (.int .u8 16)) 5,5,none⟩,⟨some 19,.index 9 (.tmp 14) (.tmp 18),5,none⟩,⟨some 20,.move (.tmp 3),9,none⟩,⟨some 21,.move (.tmp 0),9,none⟩,⟨some 22,.move (.tmp 5),3,none⟩,⟨some 23,.index 9 (.tmp 21) (.tmp 22),5,none⟩,⟨some 24,.binOp .rem 5 (.tmp 23) (.const (.int .u8 16)) 5,5,none⟩,⟨some 25,.index 9 (.tmp 20) (.tmp 24),5,none⟩] [⟨some 26,.buildSlice 22 2 #[(0,.tmp 19),(1,.tmp 25)],22,none⟩,⟨some 27,.call {callee:=.builtin .append,args:=#[.tmp 13,.tmp 26],argTypes:=#[22,22]},22,none⟩,⟨some 4,.assign (.tmp 27),22,none⟩])) (q172c0)
@[simp] theorem ym5:type_of% (zaa q172c1.eq_1):=zaa rfl
def q172l0:zac:=.seq (.seq (.ops [oA 7 5 3,oA 8 0 9,oF 9 8 9 3,oL 10 3 7 9 3 4]) (.cond (.tmp 10) (.skip) (.exit 0))) (q172c1)
@[simp] theorem ym6:type_of% (zaa q172l0.eq_1):=zaa rfl
def q172c2:zac:=.seq (.ops [oA 28 4 22,⟨some 29,.convert 22 9 (.tmp 28),9,none⟩,oB 2 29 9]) (.ret)
@[simp] theorem ym7:type_of% (zaa q172c2.eq_1):=zaa rfl
@[simp] def q172:QFn:=⟨30,[(.tmp 2,9)],.seq (.ops [oN 2 9]) (.seq (.ops [⟨some 3,.assign (.const (.string {data:=#[48,49,50,51,52,53,54,55,56,57,97,98,99,100,101,102]})),9,none⟩]) (.seq (.ops [⟨some 6,.buildSlice 22 0 #[],22,none⟩,oB 4 6 22]) (.seq (.seq (.ops [oH 5 0 3]) (.block 0 (.loop q172l0))) (q172c2))))⟩
theorem ym8:zao Tryz.f172=some q172:=by kernel_rfl
abbrev ydy:FuncId:=173
def q173c0:zac:=.ops [oA 15 5 3,oJ 16 3 15 64 3 3,oB 5 16 3]
@[simp] theorem ym9:type_of% (zaa q173c0.eq_1):=zaa rfl
def q173c1:zac:=.seq (.block 1 (.ops [oA 17 3 207,oA 18 4 22,oA 19 5 3,oA 20 5 3,oJ 21 3 20 64 3 3,⟨some 22,.slice 22 (.tmp 18) (some (.tmp 19)) (some (.tmp 21)) none,22,none⟩,oT 23 194 17 22 207 22 207,oB 3 23 207])) (q173c0)
@[simp] theorem yna:type_of% (zaa q173c1.eq_1):=zaa rfl
def q173l0:zac:=.seq (.seq (.ops [oA 11 5 3,oA 12 4 22,oF 13 12 22 3,oL 14 3 11 13 3 4]) (.cond (.tmp 14) (.skip) (.exit 0))) (q173c1)
@[simp] theorem ynb:type_of% (zaa q173l0.eq_1):=zaa rfl
def q173c2:zac:=.ops [oA 27 7 3,oJ 28 3 27 1 3 3,oB 7 28 3]
@[simp] theorem ync:type_of% (zaa q173c2.eq_1):=zaa rfl
def q173c3:zac:=.seq (.block 3 (.draw [] [⟨some 29,.move (.tmp 6),22,none⟩,⟨some 30,.move (.tmp 3),207,none⟩,⟨some 31,.move (.tmp 7),3,none⟩,⟨some 32,.indexAddr 207 (.tmp 30) (.tmp 31),0,none⟩,⟨some 33,.load 206 (.tmp 32),206,none⟩,⟨some 34,.binOp .shr 206 (.tmp 33) (.const (.int .u64 24)) 210,206,none⟩,⟨some 35,.convert 206 5 (.tmp 34),5,none⟩,⟨some 36,.move (.tmp 3),207,none⟩,⟨some 37,.move (.tmp 7),3,none⟩,⟨some 38,.indexAddr 207 (.tmp 36) (.tmp 37),0,none⟩,⟨some 39,.load 206 (.tmp 38),206,none⟩,⟨some 40,.binOp .shr 206 (.tmp 39) (.const (.int .u64 16)) 210,206,none⟩,⟨some 41,.convert 206 5 (.tmp 40),5,none⟩,⟨some 42,.move (.tmp 3),207,none⟩,⟨some 43,.move (.tmp 7),3,none⟩,⟨some 44,.indexAddr 207 (.tmp 42) (.tmp 43),0,none⟩,⟨some 45,.load 206 (.tmp 44),206,none⟩,⟨some 46,.binOp .shr 206 (.tmp 45) (.const (.int .u64 8)) 210,206,none⟩,⟨some 47,.convert 206 5 (.tmp 46),5,none⟩,⟨some 48,.move (.tmp 3),207,none⟩,⟨some 49,.move (.tmp 7),3,none⟩,⟨some 50,.indexAddr 207 (.tmp 48) (.tmp 49),0,none⟩,⟨some 51,.load 206 (.tmp 50),206,none⟩,⟨some 52,.convert 206 5 (.tmp 51),5,none⟩] [⟨some 53,.buildSlice 22 4 #[(0,.tmp 35),(1,.tmp 41),(2,.tmp 47),(3,.tmp 52)],22,none⟩,⟨some 54,.call {callee:=.builtin .append,args:=#[.tmp 29,.tmp 53],argTypes:=#[22,22]},22,none⟩,⟨some 6,.assign (.tmp 54),22,none⟩])) (q173c2)
@[simp] theorem ynd:type_of% (zaa q173c3.eq_1):=zaa rfl
def q173l1:zac:=.seq (.seq (.ops [oA 25 7 3,oAP 26 3 25 8 3 4]) (.cond (.tmp 26) (.skip) (.exit 2))) (q173c3)
@[simp] theorem yne:type_of% (zaa q173l1.eq_1):=zaa rfl
def q173c4:zac:=.seq (.ops [oA 55 6 22,⟨some 56,.convert 22 9 (.tmp 55),9,none⟩,oB 2 56 9]) (.ret)
@[simp] theorem ynf:type_of% (zaa q173c4.eq_1):=zaa rfl
def q173c5:zac:=.seq (.ops [⟨some 24,.buildSlice 22 0 #[],22,none⟩,oB 6 24 22]) (.seq (.seq (.ops [oH 7 0 3]) (.block 2 (.loop q173l1))) (q173c4))
@[simp] theorem zvr:type_of% (zaa q173c5.eq_1):=zaa rfl
@[simp] def q173:QFn:=⟨57,[(.tmp 2,9)],.seq (.ops [oN 2 9]) (.seq (.ops [⟨some 8,.buildSlice 207 8 #[(0,.const (.int .u32 1779033703)),(1,.const (.int .u32 3144134277)),(2,.const (.int .u32 1013904242)),(3,.const (.int .u32 2773480762)),(4,.const (.int .u32 1359893119)),(5,.const (.int .u32 2600822924)),(6,.const (.int .u32 528734635)),(7,.const (.int .u32 1541459225))],207,none⟩,oB 3 8 207]) (.seq (.ops [oA 9 0 9,oI 10 193 9 9 22,oB 4 10 22]) (.seq (.seq (.ops [oH 5 0 3]) (.block 0 (.loop q173l0))) (q173c5))))⟩
theorem yng:zao Tryz.f173=some q173:=by kernel_rfl
abbrev ynh:FuncId:=174
def q174c0:zac:=.ops [oA 40 6 3,⟨some 41,.binOp .mul 3 (.tmp 40) (.const (.int .i64 10)) 3,3,none⟩,oA 42 0 9,oA 43 7 3,oAK 44 9 42 43 5,⟨some 45,.binOp .sub 5 (.tmp 44) (.const (.int .u8 48)) 5,5,none⟩,⟨some 46,.convert 5 3 (.tmp 45),3,none⟩,oAH 47 3 41 46 3 3,oB 6 47 3]
@[simp] theorem yni:type_of% (zaa q174c0.eq_1):=zaa rfl
def q174c1:zac:=.ops [oJ 48 3 27 1 3 3,oA 27 48 3]
@[simp] theorem ynj:type_of% (zaa q174c1.eq_1):=zaa rfl
def q174c2:zac:=.seq (.block 1 (.seq (.ops [oA 29 27 3,oB 7 29 3]) (.seq (.seq (.ops [oA 30 0 9,oA 31 7 3,oAK 32 9 30 31 5,⟨some 33,.binOp .lss 5 (.tmp 32) (.const (.int .u8 48)) 5,4,none⟩,oA 34 33 4,oK 35 0 9 34,oK 36 7 3 34,oAQ 37 9 35 36 5 34,oAV 38 5 37 57 5 4 34,oQ 39 34 38 4]) (.cond (.tmp 39) (.seq (.ops [oH 4 0 3,oE 5 4]) (.ret)) (.skip))) (q174c0)))) (q174c1)
@[simp] theorem ynk:type_of% (zaa q174c2.eq_1):=zaa rfl
def q174l0:zac:=.seq (.ops [oL 28 3 27 26 3 4]) (.seq (.cond (.tmp 28) (.skip) (.exit 0)) (q174c2))
@[simp] theorem ynl:type_of% (zaa q174l0.eq_1):=zaa rfl
def q174c3:zac:=.seq (.ops [oA 52 6 3,oB 4 52 3,oAB 5 4]) (.ret)
@[simp] theorem ynm:type_of% (zaa q174c3.eq_1):=zaa rfl
def q174c4:zac:=.seq (.seq (.ops [oA 49 6 3,oA 50 1 3,⟨some 51,.binOp .gtr 3 (.tmp 49) (.tmp 50) 3,4,none⟩]) (.cond (.tmp 51) (.seq (.ops [oH 4 0 3,oE 5 4]) (.ret)) (.skip))) (q174c3)
@[simp] theorem ynn:type_of% (zaa q174c4.eq_1):=zaa rfl
def q174c5:zac:=.seq (.ops [oH 6 0 3]) (.seq (.seq (.ops [oA 25 0 9,oF 26 25 9 3,oAC 27 0 3]) (.block 0 (.loop q174l0))) (q174c4))
@[simp] theorem yno:type_of% (zaa q174c5.eq_1):=zaa rfl
@[simp] def q174:QFn:=⟨53,[(.tmp 4,3),(.tmp 5,4)],.seq (.ops [oH 4 0 3,oE 5 4]) (.seq (.seq (.ops [oA 8 0 9,⟨some 9,.binOp .eql 9 (.tmp 8) (.const (.string {data:=#[]})) 9,4,none⟩,oA 10 9 4,oK 11 0 9 10,oAM 12 11 9 3 10,⟨some 13,.binOp .gtr 3 (.tmp 12) (.const (.int .i64 9)) 3,4,some (10,false)⟩,oQ 14 10 13 4,oA 15 14 4,oK 16 0 9 15,oAM 17 16 9 3 15,⟨some 18,.binOp .gtr 3 (.tmp 17) (.const (.int .i64 1)) 3,4,some (15,false)⟩,oK 19 18 4 15,oO 20 0 9 19,⟨some 21,.index 9 (.tmp 20) (.const (.int .i64 0)),5,some (19,true)⟩,⟨some 22,.binOp .eql 5 (.tmp 21) (.const (.int .u8 48)) 5,4,some (19,true)⟩,oAU 23 19 22 4 15,oQ 24 15 23 4]) (.cond (.tmp 24) (.seq (.ops [oH 4 0 3,oE 5 4]) (.ret)) (.skip))) (q174c5))⟩
theorem ynp:zao Tryz.f174=some q174:=by kernel_rfl
abbrev ynq:FuncId:=175
def q175c0:zac:=.ops [oJ 14 3 6 1 3 3,oA 6 14 3]
@[simp] theorem ynr:type_of% (zaa q175c0.eq_1):=zaa rfl
def q175c1:zac:=.seq (.block 1 (.seq (.ops [oA 8 6 3,oB 3 8 3]) (.seq (.ops [oA 9 0 9,oA 10 3 3,oAK 11 9 9 10 5,oI 12 195 11 5 4,oU 13 4 12 4]) (.cond (.tmp 13) (.seq (.ops [oE 2 4]) (.ret)) (.skip))))) (q175c0)
@[simp] theorem yns:type_of% (zaa q175c1.eq_1):=zaa rfl
def q175l0:zac:=.seq (.ops [oL 7 3 6 5 3 4]) (.seq (.cond (.tmp 7) (.skip) (.exit 0)) (q175c1))
@[simp] theorem ynt:type_of% (zaa q175l0.eq_1):=zaa rfl
def q175c2:zac:=.seq (.ops [oA 15 0 9,⟨some 16,.binOp .neq 9 (.tmp 15) (.const (.string {data:=#[]})) 9,4,none⟩,oB 2 16 4]) (.ret)
@[simp] theorem ynu:type_of% (zaa q175c2.eq_1):=zaa rfl
@[simp] def q175:QFn:=⟨17,[(.tmp 2,4)],.seq (.ops [oE 2 4]) (.seq (.seq (.ops [oA 4 0 9,oF 5 4 9 3,oAC 6 0 3]) (.block 0 (.loop q175l0))) (q175c2))⟩
theorem ynv:zao Tryz.f175=some q175:=by kernel_rfl
abbrev ynw:FuncId:=176
def q176c0:zac:=.seq (.ops [⟨some 27,.makeFunc (.func 197) #[] #[.tmp 6],54,none⟩,oB 8 27 54]) (.ops [oC 28 188 4 188,oA 29 5 9,⟨some 30,.binOp .eql 9 (.tmp 29) (.const (.string {data:=#[42,42]})) 9,4,none⟩,oA 31 8 54,⟨some 32,.build 216 #[(0,.tmp 30),(1,.tmp 31)],216,none⟩,oY 33 188 1 0 32 188,oV 34 28 33 188 188 188,oG 188 4 34 0])
@[simp] theorem ynx:type_of% (zaa q176c0.eq_1):=zaa rfl
def q176c1:zac:=.seq (.ops [oC 35 188 4 188,oG 188 2 35 0,⟨none,.store 4 (.tmp 3) (.const (.bool true)),0,none⟩]) (.ret)
@[simp] theorem yny:type_of% (zaa q176c1.eq_1):=zaa rfl
def q176c2:zac:=.seq (.ops [oP 4 188 0]) (.seq (.seq (.ops [oA 12 0 9,⟨some 13,.call {callee:=.value (.func 70),args:=#[.tmp 12,.const (.string {data:=#[47]})],argTypes:=#[9,9]},104,none⟩]) (.block 0 (.range 13 [14] (.ops [oB 5 14 9]) (.block 1 (.seq (.ops [oA 16 5 9,oI 17 196 16 9 212,oA 15 17 212,oM 18 15 0 211,oM 19 15 1 4,oP 6 211 0,oG 211 6 18 0,oB 7 19 4]) (.seq (.seq (.ops [oA 20 7 4,oU 21 4 20 4,oA 22 21 4,oX 23 188 4 188 22,oAM 24 23 188 3 22,⟨some 25,.binOp .eql 3 (.tmp 24) (.const (.int .i64 5)) 3,4,some (22,false)⟩,oQ 26 22 25 4]) (.cond (.tmp 26) (.seq (.ops [⟨none,.store 188 (.tmp 2) (.const (.slice none 0 0)),0,none⟩,⟨none,.store 4 (.tmp 3) (.const (.bool false)),0,none⟩]) (.ret)) (.skip))) (q176c0))))))) (q176c1))
@[simp] theorem ynz:type_of% (zaa q176c2.eq_1):=zaa rfl
@[simp] def q176:QFn:=⟨36,[(.cell 2 188,188),(.cell 3 4,4)],.seq (.ops [oP 2 188 0,oP 3 4 0]) (.seq (.seq (.ops [oA 9 0 9,oF 10 9 9 3,oAL 11 3 10 40 3 4]) (.cond (.tmp 11) (.seq (.ops [⟨none,.store 188 (.tmp 2) (.const (.slice none 0 0)),0,none⟩,⟨none,.store 4 (.tmp 3) (.const (.bool false)),0,none⟩]) (.ret)) (.skip))) (q176c2))⟩
theorem yn0:zao Tryz.f176=some q176:=by kernel_rfl
abbrev yn1:FuncId:=177
@[simp] def q177:QFn:=⟨9,[(.tmp 2,4)],.seq (.ops [oE 2 4]) (.seq (.ops [oA 3 0 5,⟨some 4,.binOp .geq 5 (.tmp 3) (.const (.int .u8 32)) 5,4,none⟩,oA 5 4 4,oO 6 0 5 5,oAW 7 5 6 126 5 4 5,oR 8 5 7 4,oB 2 8 4]) (.ret))⟩
theorem yn2:zao Tryz.f177=some q177:=by kernel_rfl
abbrev yn3:FuncId:=178
def q178c0:zac:=.ops [oJ 18 3 8 1 3 3,oA 8 18 3]
@[simp] theorem yn4:type_of% (zaa q178c0.eq_1):=zaa rfl
def q178c1:zac:=.seq (.block 1 (.seq (.ops [oA 10 8 3,oB 5 10 3]) (.seq (.ops [oA 11 1 9,oA 12 0 27,oA 13 5 3,oS 14 27 12 13 0,oC 15 9 14 9,⟨some 16,.binOp .eql 9 (.tmp 11) (.tmp 15) 9,4,none⟩]) (.cond (.tmp 16) (.seq (.ops [oA 17 5 3,oB 4 17 3]) (.ret)) (.skip))))) (q178c0)
@[simp] theorem yn5:type_of% (zaa q178c1.eq_1):=zaa rfl
def q178l0:zac:=.seq (.ops [oL 9 3 8 7 3 0]) (.seq (.cond (.tmp 9) (.skip) (.exit 0)) (q178c1))
@[simp] theorem yn6:type_of% (zaa q178l0.eq_1):=zaa rfl
def q178c2:zac:=.seq (.ops [⟨some 4,.assign (.const (.int .i64 (-1))),3,none⟩]) (.ret)
@[simp] theorem yn7:type_of% (zaa q178c2.eq_1):=zaa rfl
@[simp] def q178:QFn:=⟨19,[(.tmp 4,3)],.seq (.ops [oH 4 0 3]) (.seq (.seq (.ops [oA 6 0 27,oF 7 6 27 3,oAC 8 0 3]) (.block 0 (.loop q178l0))) (q178c2))⟩
theorem yn8:zao Tryz.f178=some q178:=by kernel_rfl
abbrev ydz:FuncId:=179
def q179c0:zac:=.ops [oJ 18 3 8 1 3 3,oA 8 18 3]
@[simp] theorem yn9:type_of% (zaa q179c0.eq_1):=zaa rfl
def q179c1:zac:=.seq (.block 1 (.seq (.ops [oA 10 8 3,oB 5 10 3]) (.seq (.ops [oA 11 1 115,oA 12 0 23,oA 13 5 3,oS 14 23 12 13 0,oC 15 33 14 33,oAE 16 11 15 33 4]) (.cond (.tmp 16) (.seq (.ops [oA 17 5 3,oB 4 17 3]) (.ret)) (.skip))))) (q179c0)
@[simp] theorem yoa:type_of% (zaa q179c1.eq_1):=zaa rfl
def q179l0:zac:=.seq (.ops [oL 9 3 8 7 3 0]) (.seq (.cond (.tmp 9) (.skip) (.exit 0)) (q179c1))
@[simp] theorem yob:type_of% (zaa q179l0.eq_1):=zaa rfl
def q179c2:zac:=.seq (.ops [⟨some 4,.assign (.const (.int .i64 (-1))),3,none⟩]) (.ret)
@[simp] theorem yoc:type_of% (zaa q179c2.eq_1):=zaa rfl
@[simp] def q179:QFn:=⟨19,[(.tmp 4,3)],.seq (.ops [oH 4 0 3]) (.seq (.seq (.ops [oA 6 0 23,oF 7 6 23 3,oAC 8 0 3]) (.block 0 (.loop q179l0))) (q179c2))⟩
theorem yd0:zao Tryz.f179=some q179:=by kernel_rfl
abbrev yod:FuncId:=180
def q180c0:zac:=.seq (.ops [oA 22 5 9,oA 23 6 9,oB 2 22 9,oB 3 23 9,oAB 4 4]) (.ret)
@[simp] theorem yoe:type_of% (zaa q180c0.eq_1):=zaa rfl
@[simp] def q180:QFn:=⟨24,[(.tmp 2,9),(.tmp 3,9),(.tmp 4,4)],.seq (.ops [oN 2 9,oN 3 9,oE 4 4]) (.seq (.ops [oA 9 0 9,⟨some 10,.call {callee:=.value (.func 199),args:=#[.tmp 9,.const (.string {data:=#[36,123]})],argTypes:=#[9,9]},9,none⟩,⟨some 11,.call {callee:=.value (.func 137),args:=#[.tmp 10,.const (.string {data:=#[125]})],argTypes:=#[9,9]},134,none⟩,oA 8 11 134,oM 12 8 0 9,oM 13 8 1 9,oM 14 8 2 4,oB 5 12 9,oB 6 13 9,oB 7 14 4]) (.seq (.seq (.ops [oA 15 7 4,oU 16 4 15 4,oA 17 16 4,oK 18 5 9 17,oAN 19 85 18 9 4 17,⟨some 20,.unOp .not 4 (.tmp 19),4,some (17,false)⟩,oQ 21 17 20 4]) (.cond (.tmp 21) (.seq (.ops [oN 2 9,oN 3 9,oE 4 4]) (.ret)) (.skip))) (q180c0)))⟩
theorem yof:zao Tryz.f180=some q180:=by kernel_rfl
abbrev yog:FuncId:=181
def q181c0:zac:=.seq (.draw [] [⟨some 27,.move (.tmp 0),193,none⟩,⟨some 28,.move (.tmp 0),193,none⟩,⟨some 29,.nilCheck (.tmp 28),0,none⟩,⟨some 30,.fieldAddr 172 (.tmp 29) 1,0,none⟩,⟨some 31,.load 27 (.tmp 30),27,none⟩,⟨some 32,.load 9 (.tmp 3),9,none⟩,⟨some 33,.buildSlice 27 1 #[(0,.tmp 32)],27,none⟩] [⟨some 34,.call {callee:=.builtin .append,args:=#[.tmp 31,.tmp 33],argTypes:=#[27,27]},27,none⟩,⟨some 35,.nilCheck (.tmp 27),0,none⟩,⟨some 36,.fieldAddr 172 (.tmp 35) 1,0,none⟩,⟨none,.store 27 (.tmp 36) (.tmp 34),0,none⟩]) (.seq (.ops [oA 38 0 193,oA 39 0 193,oAJ 40 39 0,oD 41 172 40 0 0,oC 42 23 41 23,oA 43 6 3,oS 44 23 42 43 0,oD 45 33 44 1 0,oC 46 9 45 9,oT 47 155 38 46 193 9 173,oA 37 47 173,oM 48 37 0 9,oM 49 37 1 88,oB 7 48 9,oB 8 49 88]) (.seq (.draw [] [⟨some 50,.move (.tmp 0),193,none⟩,⟨some 51,.move (.tmp 0),193,none⟩,⟨some 52,.nilCheck (.tmp 51),0,none⟩,⟨some 53,.fieldAddr 172 (.tmp 52) 1,0,none⟩,⟨some 54,.load 27 (.tmp 53),27,none⟩,⟨some 55,.move (.tmp 0),193,none⟩,⟨some 56,.nilCheck (.tmp 55),0,none⟩,⟨some 57,.fieldAddr 172 (.tmp 56) 1,0,none⟩,⟨some 58,.load 27 (.tmp 57),27,none⟩,⟨some 59,.call {callee:=.builtin .len,args:=#[.tmp 58],argTypes:=#[27]},3,none⟩,⟨some 60,.binOp .sub 3 (.tmp 59) (.const (.int .i64 1)) 3,3,none⟩] [⟨some 61,.slice 27 (.tmp 54) none (some (.tmp 60)) none,27,none⟩,⟨some 62,.nilCheck (.tmp 50),0,none⟩,⟨some 63,.fieldAddr 172 (.tmp 62) 1,0,none⟩,⟨none,.store 27 (.tmp 63) (.tmp 61),0,none⟩]) (.seq (.ops [oA 64 7 9,oA 65 8 88,oB 4 64 9,oB 5 65 88]) (.ret))))
@[simp] theorem yoh:type_of% (zaa q181c0.eq_1):=zaa rfl
def q181c1:zac:=.seq (.seq (.draw [] [⟨some 19,.move (.tmp 0),193,none⟩,⟨some 20,.nilCheck (.tmp 19),0,none⟩,⟨some 21,.fieldAddr 172 (.tmp 20) 1,0,none⟩,⟨some 22,.load 27 (.tmp 21),27,none⟩,⟨some 23,.load 9 (.tmp 3),9,none⟩] [⟨some 24,.call {callee:=.value (.func 152),args:=#[.tmp 22,.tmp 23],argTypes:=#[27,9]},4,none⟩]) (.cond (.tmp 24) (.seq (.ops [⟨some 25,.build 195 #[(0,.const (.int .i64 4))],195,none⟩,⟨some 26,.makeInterface 195 (.tmp 25),88,none⟩,oN 4 9,oB 5 26 88]) (.ret)) (.skip))) (q181c0)
@[simp] theorem yoi:type_of% (zaa q181c1.eq_1):=zaa rfl
@[simp] def q181:QFn:=⟨66,[(.tmp 4,9),(.tmp 5,88)],.seq (.ops [oZ 3 9 1 0,oN 4 9,⟨some 5,.assign (.const .nilIface),88,none⟩]) (.seq (.ops [oA 9 0 193,oAJ 10 9 0,oD 11 172 10 0 0,oC 12 23 11 23,⟨some 13,.makeFunc (.func 200) #[] #[.tmp 3],115,none⟩,oT 14 179 12 13 23 115 3,oB 6 14 3]) (.seq (.seq (.ops [oA 15 6 3,oAP 16 3 15 0 3 4]) (.cond (.tmp 16) (.seq (.ops [⟨some 17,.build 195 #[(0,.const (.int .i64 3))],195,none⟩,⟨some 18,.makeInterface 195 (.tmp 17),88,none⟩,oN 4 9,oB 5 18 88]) (.ret)) (.skip))) (q181c1)))⟩
theorem yoj:zao Tryz.f181=some q181:=by kernel_rfl
abbrev yok:FuncId:=183
def q183c0:zac:=.block 1 (.ops [oA 24 3 3,oJ 25 3 24 1 3 3,oB 3 25 3])
@[simp] theorem yol:type_of% (zaa q183c0.eq_1):=zaa rfl
def q183l0:zac:=.seq (.seq (.ops [oA 14 3 3,oA 15 0 9,oF 16 15 9 3,oL 17 3 14 16 3 4,oA 18 17 4,oO 19 0 9 18,oO 20 3 3 18,⟨some 21,.index 9 (.tmp 19) (.tmp 20),5,some (18,true)⟩,oAO 22 157 21 5 4 18,oR 23 18 22 4]) (.cond (.tmp 23) (.skip) (.exit 0))) (q183c0)
@[simp] theorem yom:type_of% (zaa q183l0.eq_1):=zaa rfl
def q183c1:zac:=.seq (.ops [oA 41 3 3,oJ 42 3 41 1 3 3,oB 2 42 3]) (.ret)
@[simp] theorem yon:type_of% (zaa q183c1.eq_1):=zaa rfl
def q183c2:zac:=.seq (.seq (.ops [oA 26 3 3,oA 27 4 3,⟨some 28,.binOp .eql 3 (.tmp 26) (.tmp 27) 3,4,none⟩,oA 29 28 4,oK 30 3 3 29,oK 31 0 9 29,oAM 32 31 9 3 29,⟨some 33,.binOp .eql 3 (.tmp 30) (.tmp 32) 3,4,some (29,false)⟩,oQ 34 29 33 4,oA 35 34 4,oK 36 0 9 35,oK 37 3 3 35,oAQ 38 9 36 37 5 35,⟨some 39,.binOp .neq 5 (.tmp 38) (.const (.int .u8 93)) 5,4,some (35,false)⟩,oQ 40 35 39 4]) (.cond (.tmp 40) (.seq (.ops [oH 2 0 3]) (.ret)) (.skip))) (q183c1)
@[simp] theorem yoo:type_of% (zaa q183c2.eq_1):=zaa rfl
def q183c3:zac:=.seq (.ops [oA 13 3 3,oB 4 13 3]) (.seq (.block 0 (.loop q183l0)) (q183c2))
@[simp] theorem zvs:type_of% (zaa q183c3.eq_1):=zaa rfl
@[simp] def q183:QFn:=⟨43,[(.tmp 2,3)],.seq (.ops [oH 2 0 3]) (.seq (.ops [oH 3 1 3]) (.seq (.seq (.ops [oA 5 0 9,oF 6 5 9 3,oAL 7 3 6 1 3 4,oA 8 7 4,oO 9 0 9 8,⟨some 10,.index 9 (.tmp 9) (.const (.int .i64 1)),5,some (8,true)⟩,⟨some 11,.binOp .eql 5 (.tmp 10) (.const (.int .u8 33)) 5,4,some (8,true)⟩,oR 12 8 11 4]) (.cond (.tmp 12) (.ops [oH 3 2 3]) (.skip))) (q183c3)))⟩
theorem yop:zao Tryz.f183=some q183:=by kernel_rfl
abbrev yoq:FuncId:=184
def q184c0:zac:=.ops [oA 25 3 3,⟨some 26,.binOp .mul 3 (.tmp 25) (.const (.int .i64 10)) 3,3,none⟩,oA 27 0 9,oA 28 4 3,oAK 29 9 27 28 5,⟨some 30,.binOp .sub 5 (.tmp 29) (.const (.int .u8 48)) 5,5,none⟩,⟨some 31,.convert 5 3 (.tmp 30),3,none⟩,oAH 32 3 26 31 3 3,oB 3 32 3]
@[simp] theorem yor:type_of% (zaa q184c0.eq_1):=zaa rfl
def q184c1:zac:=.ops [oA 9 4 3,oJ 10 3 9 1 3 3,oB 4 10 3]
@[simp] theorem yos:type_of% (zaa q184c1.eq_1):=zaa rfl
def q184c2:zac:=.seq (.block 1 (.seq (.seq (.ops [oA 11 0 9,oA 12 4 3,oAK 13 9 11 12 5,⟨some 14,.binOp .lss 5 (.tmp 13) (.const (.int .u8 48)) 5,4,none⟩,oA 15 14 4,oK 16 0 9 15,oK 17 4 3 15,oAQ 18 9 16 17 5 15,oAV 19 5 18 57 5 4 15,oQ 20 15 19 4,oA 21 20 4,oK 22 4 3 21,⟨some 23,.binOp .geq 3 (.tmp 22) (.const (.int .i64 6)) 3,4,some (21,false)⟩,oQ 24 21 23 4]) (.cond (.tmp 24) (.seq (.ops [⟨some 2,.assign (.const (.int .i64 (-1))),3,none⟩]) (.ret)) (.skip))) (q184c0))) (q184c1)
@[simp] theorem yot:type_of% (zaa q184c2.eq_1):=zaa rfl
def q184l0:zac:=.seq (.seq (.ops [oA 5 4 3,oA 6 0 9,oF 7 6 9 3,oL 8 3 5 7 3 4]) (.cond (.tmp 8) (.skip) (.exit 0))) (q184c2)
@[simp] theorem you:type_of% (zaa q184l0.eq_1):=zaa rfl
def q184c3:zac:=.seq (.ops [oA 46 3 3,oB 2 46 3]) (.ret)
@[simp] theorem yov:type_of% (zaa q184c3.eq_1):=zaa rfl
def q184c4:zac:=.seq (.seq (.ops [oA 33 0 9,oF 34 33 9 3,oW 35 3 34 0 3 4,oA 36 35 4,oK 37 0 9 36,oAM 38 37 9 3 36,⟨some 39,.binOp .gtr 3 (.tmp 38) (.const (.int .i64 1)) 3,4,some (36,false)⟩,oK 40 39 4 36,oO 41 0 9 40,⟨some 42,.index 9 (.tmp 41) (.const (.int .i64 0)),5,some (40,true)⟩,⟨some 43,.binOp .eql 5 (.tmp 42) (.const (.int .u8 48)) 5,4,some (40,true)⟩,oAU 44 40 43 4 36,oQ 45 36 44 4]) (.cond (.tmp 45) (.seq (.ops [⟨some 2,.assign (.const (.int .i64 (-1))),3,none⟩]) (.ret)) (.skip))) (q184c3)
@[simp] theorem yow:type_of% (zaa q184c4.eq_1):=zaa rfl
@[simp] def q184:QFn:=⟨47,[(.tmp 2,3)],.seq (.ops [oH 2 0 3]) (.seq (.ops [oH 3 0 3]) (.seq (.seq (.ops [oH 4 0 3]) (.block 0 (.loop q184l0))) (q184c4)))⟩
theorem yox:zao Tryz.f184=some q184:=by kernel_rfl
abbrev z9u:FuncId:=192
@[simp] def q192:QFn:=⟨18,[(.tmp 4,4)],.seq (.ops [oE 4 4]) (.seq (.ops [oA 5 0 9,oF 6 5 9 3,oA 7 1 9,oF 8 7 9 3,⟨some 9,.binOp .geq 3 (.tmp 6) (.tmp 8) 3,4,none⟩,oA 10 9 4,oO 11 0 9 10,oO 12 1 9 10,oAR 13 12 9 3 10,⟨some 14,.slice 9 (.tmp 11) none (some (.tmp 13)) none,9,some (10,true)⟩,oO 15 1 9 10,⟨some 16,.binOp .eql 9 (.tmp 14) (.tmp 15) 9,4,some (10,true)⟩,oR 17 10 16 4,oB 4 17 4]) (.ret))⟩
theorem z9v:zao Tryz.f192=some q192:=by kernel_rfl
abbrev yd1:FuncId:=193
def q193c0:zac:=.block 1 (.ops [oA 14 3 22,⟨some 15,.buildSlice 22 1 #[(0,.const (.int .u8 0))],22,none⟩,oV 16 14 15 22 22 22,oB 3 16 22])
@[simp] theorem yoy:type_of% (zaa q193c0.eq_1):=zaa rfl
def q193l0:zac:=.seq (.seq (.ops [oA 10 3 22,oF 11 10 22 3,⟨some 12,.binOp .rem 3 (.tmp 11) (.const (.int .i64 64)) 3,3,none⟩,oAS 13 3 12 56 3 4]) (.cond (.tmp 13) (.skip) (.exit 0))) (q193c0)
@[simp] theorem yoz:type_of% (zaa q193l0.eq_1):=zaa rfl
def q193c1:zac:=.ops [oA 22 5 3,oAT 23 3 22 1 3 3,oB 5 23 3]
@[simp] theorem yo0:type_of% (zaa q193c1.eq_1):=zaa rfl
def q193c2:zac:=.seq (.block 3 (.ops [oA 24 3 22,oA 25 4 3,oA 26 5 3,⟨some 27,.binOp .mul 3 (.const (.int .i64 8)) (.tmp 26) 3,3,none⟩,⟨some 28,.binOp .shr 3 (.tmp 25) (.tmp 27) 3,3,none⟩,⟨some 29,.convert 3 5 (.tmp 28),5,none⟩,oY 30 22 1 0 29 22,oV 31 24 30 22 22 22,oB 3 31 22])) (q193c1)
@[simp] theorem yo1:type_of% (zaa q193c2.eq_1):=zaa rfl
def q193l1:zac:=.seq (.seq (.ops [oA 20 5 3,⟨some 21,.binOp .geq 3 (.tmp 20) (.const (.int .i64 0)) 3,4,none⟩]) (.cond (.tmp 21) (.skip) (.exit 2))) (q193c2)
@[simp] theorem yo2:type_of% (zaa q193l1.eq_1):=zaa rfl
def q193c3:zac:=.seq (.ops [oA 32 3 22,oB 2 32 22]) (.ret)
@[simp] theorem yo3:type_of% (zaa q193c3.eq_1):=zaa rfl
def q193c4:zac:=.seq (.ops [oA 17 0 9,oF 18 17 9 3,⟨some 19,.binOp .mul 3 (.tmp 18) (.const (.int .i64 8)) 3,3,none⟩,oB 4 19 3]) (.seq (.seq (.ops [oH 5 7 3]) (.block 2 (.loop q193l1))) (q193c3))
@[simp] theorem z9w:type_of% (zaa q193c4.eq_1):=zaa rfl
@[simp] def q193:QFn:=⟨33,[(.tmp 2,22)],.seq (.ops [oAF 2 22]) (.seq (.ops [oA 6 0 9,⟨some 7,.convert 9 22 (.tmp 6),22,none⟩,⟨some 8,.buildSlice 22 1 #[(0,.const (.int .u8 128))],22,none⟩,oV 9 7 8 22 22 22,oB 3 9 22]) (.seq (.block 0 (.loop q193l0)) (q193c4)))⟩
theorem yo4:zao Tryz.f193=some q193:=by kernel_rfl
abbrev yd2:FuncId:=194
def q194c0:zac:=.ops [oA 113 14 3,oAT 114 3 113 1 3 3,oB 14 114 3]
@[simp] theorem yo5:type_of% (zaa q194c0.eq_1):=zaa rfl
def q194c1:zac:=.seq (.block 3 (.ops [oA 115 7 207,oA 116 14 3,oA 117 7 207,oA 118 14 3,oAT 119 3 118 1 3 3,oS 120 207 117 119 0,oC 121 206 120 206,oS 122 207 115 116 0,oG 206 122 121 0])) (q194c0)
@[simp] theorem yo6:type_of% (zaa q194c1.eq_1):=zaa rfl
def q194l0:zac:=.seq (.seq (.ops [oA 111 14 3,oAL 112 3 111 0 3 4]) (.cond (.tmp 112) (.skip) (.exit 2))) (q194c1)
@[simp] theorem yo7:type_of% (zaa q194l0.eq_1):=zaa rfl
def q194c2:zac:=.seq (.ops [oA 123 7 207,oA 124 7 207,⟨some 125,.indexAddr 207 (.tmp 124) (.const (.int .i64 4)),0,none⟩,oC 126 206 125 206,oA 127 11 206,oAH 128 206 126 127 206 206,⟨some 129,.indexAddr 207 (.tmp 123) (.const (.int .i64 4)),0,none⟩,oG 206 129 128 0]) (.ops [oA 130 7 207,oA 131 11 206,oA 132 12 206,oAH 133 206 131 132 206 206,oA 134 13 206,oAH 135 206 133 134 206 206,⟨some 136,.indexAddr 207 (.tmp 130) (.const (.int .i64 0)),0,none⟩,oG 206 136 135 0])
@[simp] theorem z2j:type_of% (zaa q194c2.eq_1):=zaa rfl
def q194c3:zac:=.ops [oA 25 8 3,oJ 26 3 25 1 3 3,oB 8 26 3]
@[simp] theorem yo8:type_of% (zaa q194c3.eq_1):=zaa rfl
def q194c4:zac:=.seq (.block 1 (.seq (.draw [] [⟨some 27,.move (.tmp 7),207,none⟩,⟨some 28,.indexAddr 207 (.tmp 27) (.const (.int .i64 4)),0,none⟩,⟨some 29,.load 206 (.tmp 28),206,none⟩,⟨some 30,.call {callee:=.value (.func 213),args:=#[.tmp 29,.const (.int .i64 6)],argTypes:=#[206,3]},206,none⟩,⟨some 31,.move (.tmp 7),207,none⟩,⟨some 32,.indexAddr 207 (.tmp 31) (.const (.int .i64 4)),0,none⟩,⟨some 33,.load 206 (.tmp 32),206,none⟩,⟨some 34,.call {callee:=.value (.func 213),args:=#[.tmp 33,.const (.int .i64 11)],argTypes:=#[206,3]},206,none⟩,⟨some 35,.binOp .xor 206 (.tmp 30) (.tmp 34) 206,206,none⟩,⟨some 36,.move (.tmp 7),207,none⟩,⟨some 37,.indexAddr 207 (.tmp 36) (.const (.int .i64 4)),0,none⟩,⟨some 38,.load 206 (.tmp 37),206,none⟩,⟨some 39,.call {callee:=.value (.func 213),args:=#[.tmp 38,.const (.int .i64 25)],argTypes:=#[206,3]},206,none⟩] [⟨some 40,.binOp .xor 206 (.tmp 35) (.tmp 39) 206,206,none⟩,⟨some 9,.assign (.tmp 40),206,none⟩]) (.seq (.draw [] [⟨some 41,.move (.tmp 7),207,none⟩,⟨some 42,.indexAddr 207 (.tmp 41) (.const (.int .i64 4)),0,none⟩,⟨some 43,.load 206 (.tmp 42),206,none⟩,⟨some 44,.move (.tmp 7),207,none⟩,⟨some 45,.indexAddr 207 (.tmp 44) (.const (.int .i64 5)),0,none⟩,⟨some 46,.load 206 (.tmp 45),206,none⟩,⟨some 47,.binOp .and 206 (.tmp 43) (.tmp 46) 206,206,none⟩,⟨some 48,.move (.tmp 7),207,none⟩,⟨some 49,.indexAddr 207 (.tmp 48) (.const (.int .i64 4)),0,none⟩,⟨some 50,.load 206 (.tmp 49),206,none⟩,⟨some 51,.unOp .xor 206 (.tmp 50),206,none⟩,⟨some 52,.move (.tmp 7),207,none⟩,⟨some 53,.indexAddr 207 (.tmp 52) (.const (.int .i64 6)),0,none⟩,⟨some 54,.load 206 (.tmp 53),206,none⟩,⟨some 55,.binOp .and 206 (.tmp 51) (.tmp 54) 206,206,none⟩] [⟨some 56,.binOp .xor 206 (.tmp 47) (.tmp 55) 206,206,none⟩,⟨some 10,.assign (.tmp 56),206,none⟩]) (.seq (.draw [] [⟨some 57,.move (.tmp 7),207,none⟩,⟨some 58,.indexAddr 207 (.tmp 57) (.const (.int .i64 7)),0,none⟩,⟨some 59,.load 206 (.tmp 58),206,none⟩,⟨some 60,.move (.tmp 9),206,none⟩,⟨some 61,.binOp .add 206 (.tmp 59) (.tmp 60) 206,206,none⟩,⟨some 62,.move (.tmp 10),206,none⟩,⟨some 63,.binOp .add 206 (.tmp 61) (.tmp 62) 206,206,none⟩,⟨some 64,.move (.tmp 6),207,none⟩,⟨some 65,.move (.tmp 8),3,none⟩,⟨some 66,.indexAddr 207 (.tmp 64) (.tmp 65),0,none⟩,⟨some 67,.load 206 (.tmp 66),206,none⟩,⟨some 68,.binOp .add 206 (.tmp 63) (.tmp 67) 206,206,none⟩,⟨some 69,.move (.tmp 5),207,none⟩,⟨some 70,.move (.tmp 8),3,none⟩,⟨some 71,.indexAddr 207 (.tmp 69) (.tmp 70),0,none⟩,⟨some 72,.load 206 (.tmp 71),206,none⟩] [⟨some 73,.binOp .add 206 (.tmp 68) (.tmp 72) 206,206,none⟩,⟨some 11,.assign (.tmp 73),206,none⟩]) (.seq (.draw [] [⟨some 74,.move (.tmp 7),207,none⟩,⟨some 75,.indexAddr 207 (.tmp 74) (.const (.int .i64 0)),0,none⟩,⟨some 76,.load 206 (.tmp 75),206,none⟩,⟨some 77,.call {callee:=.value (.func 213),args:=#[.tmp 76,.const (.int .i64 2)],argTypes:=#[206,3]},206,none⟩,⟨some 78,.move (.tmp 7),207,none⟩,⟨some 79,.indexAddr 207 (.tmp 78) (.const (.int .i64 0)),0,none⟩,⟨some 80,.load 206 (.tmp 79),206,none⟩,⟨some 81,.call {callee:=.value (.func 213),args:=#[.tmp 80,.const (.int .i64 13)],argTypes:=#[206,3]},206,none⟩,⟨some 82,.binOp .xor 206 (.tmp 77) (.tmp 81) 206,206,none⟩,⟨some 83,.move (.tmp 7),207,none⟩,⟨some 84,.indexAddr 207 (.tmp 83) (.const (.int .i64 0)),0,none⟩,⟨some 85,.load 206 (.tmp 84),206,none⟩,⟨some 86,.call {callee:=.value (.func 213),args:=#[.tmp 85,.const (.int .i64 22)],argTypes:=#[206,3]},206,none⟩] [⟨some 87,.binOp .xor 206 (.tmp 82) (.tmp 86) 206,206,none⟩,⟨some 12,.assign (.tmp 87),206,none⟩]) (.seq (.draw [] [⟨some 88,.move (.tmp 7),207,none⟩,⟨some 89,.indexAddr 207 (.tmp 88) (.const (.int .i64 0)),0,none⟩,⟨some 90,.load 206 (.tmp 89),206,none⟩,⟨some 91,.move (.tmp 7),207,none⟩,⟨some 92,.indexAddr 207 (.tmp 91) (.const (.int .i64 1)),0,none⟩,⟨some 93,.load 206 (.tmp 92),206,none⟩,⟨some 94,.binOp .and 206 (.tmp 90) (.tmp 93) 206,206,none⟩,⟨some 95,.move (.tmp 7),207,none⟩,⟨some 96,.indexAddr 207 (.tmp 95) (.const (.int .i64 0)),0,none⟩,⟨some 97,.load 206 (.tmp 96),206,none⟩,⟨some 98,.move (.tmp 7),207,none⟩,⟨some 99,.indexAddr 207 (.tmp 98) (.const (.int .i64 2)),0,none⟩,⟨some 100,.load 206 (.tmp 99),206,none⟩,⟨some 101,.binOp .and 206 (.tmp 97) (.tmp 100) 206,206,none⟩,⟨some 102,.binOp .xor 206 (.tmp 94) (.tmp 101) 206,206,none⟩,⟨some 103,.move (.tmp 7),207,none⟩,⟨some 104,.indexAddr 207 (.tmp 103) (.const (.int .i64 1)),0,none⟩,⟨some 105,.load 206 (.tmp 104),206,none⟩,⟨some 106,.move (.tmp 7),207,none⟩,⟨some 107,.indexAddr 207 (.tmp 106) (.const (.int .i64 2)),0,none⟩,⟨some 108,.load 206 (.tmp 107),206,none⟩,⟨some 109,.binOp .and 206 (.tmp 105) (.tmp 108) 206,206,none⟩] [⟨some 110,.binOp .xor 206 (.tmp 102) (.tmp 109) 206,206,none⟩,⟨some 13,.assign (.tmp 110),206,none⟩]) (.seq (.seq (.ops [oH 14 7 3]) (.block 2 (.loop q194l0))) (q194c2)))))))) (q194c3)
@[simp] theorem yo9:type_of% (zaa q194c4.eq_1):=zaa rfl
def q194l1:zac:=.seq (.seq (.ops [oA 23 8 3,oAP 24 3 23 64 3 4]) (.cond (.tmp 24) (.skip) (.exit 0))) (q194c4)
@[simp] theorem ypa:type_of% (zaa q194l1.eq_1):=zaa rfl
def q194c5:zac:=.ops [oA 140 16 3,oJ 141 3 140 1 3 3,oB 16 141 3]
@[simp] theorem ypb:type_of% (zaa q194c5.eq_1):=zaa rfl
def q194c6:zac:=.seq (.block 5 (.draw [] [⟨some 142,.move (.tmp 15),207,none⟩,⟨some 143,.move (.tmp 0),207,none⟩,⟨some 144,.move (.tmp 16),3,none⟩,⟨some 145,.indexAddr 207 (.tmp 143) (.tmp 144),0,none⟩,⟨some 146,.load 206 (.tmp 145),206,none⟩,⟨some 147,.move (.tmp 7),207,none⟩,⟨some 148,.move (.tmp 16),3,none⟩,⟨some 149,.indexAddr 207 (.tmp 147) (.tmp 148),0,none⟩,⟨some 150,.load 206 (.tmp 149),206,none⟩] [⟨some 151,.binOp .add 206 (.tmp 146) (.tmp 150) 206,206,none⟩,⟨some 152,.buildSlice 207 1 #[(0,.tmp 151)],207,none⟩,⟨some 153,.call {callee:=.builtin .append,args:=#[.tmp 142,.tmp 152],argTypes:=#[207,207]},207,none⟩,⟨some 15,.assign (.tmp 153),207,none⟩])) (q194c5)
@[simp] theorem ypc:type_of% (zaa q194c6.eq_1):=zaa rfl
def q194l2:zac:=.seq (.seq (.ops [oA 138 16 3,oAP 139 3 138 8 3 4]) (.cond (.tmp 139) (.skip) (.exit 4))) (q194c6)
@[simp] theorem ypd:type_of% (zaa q194l2.eq_1):=zaa rfl
def q194c7:zac:=.seq (.ops [oA 154 15 207,oB 4 154 207]) (.ret)
@[simp] theorem ype:type_of% (zaa q194c7.eq_1):=zaa rfl
def q194c8:zac:=.seq (.ops [⟨some 137,.buildSlice 207 0 #[],207,none⟩,oB 15 137 207]) (.seq (.seq (.ops [oH 16 0 3]) (.block 4 (.loop q194l2))) (q194c7))
@[simp] theorem z2k:type_of% (zaa q194c8.eq_1):=zaa rfl
@[simp] def q194:QFn:=⟨155,[(.tmp 4,207)],.seq (.ops [oAF 4 207]) (.seq (.ops [oA 17 1 22,oI 18 211 17 22 207,oB 5 18 207]) (.seq (.ops [⟨some 19,.call {callee:=.value (.func 212),args:=#[],argTypes:=#[]},207,none⟩,oB 6 19 207]) (.seq (.ops [⟨some 20,.buildSlice 207 0 #[],207,none⟩,oA 21 0 207,oV 22 20 21 207 207 207,oB 7 22 207]) (.seq (.seq (.ops [oH 8 0 3]) (.block 0 (.loop q194l1))) (q194c8)))))⟩
theorem ypf:zao Tryz.f194=some q194:=by kernel_rfl
abbrev ypg:FuncId:=195
@[simp] def q195:QFn:=⟨29,[(.tmp 2,4)],.seq (.ops [oE 2 4]) (.seq (.ops [oA 3 0 5,⟨some 4,.binOp .geq 5 (.tmp 3) (.const (.int .u8 97)) 5,4,none⟩,oA 5 4 4,oO 6 0 5 5,oAW 7 5 6 122 5 4 5,oR 8 5 7 4,oA 9 8 4,oK 10 0 5 9,⟨some 11,.binOp .geq 5 (.tmp 10) (.const (.int .u8 48)) 5,4,some (9,false)⟩,oK 12 11 4 9,oO 13 0 5 12,oAW 14 5 13 57 5 4 12,oAU 15 12 14 4 9,oQ 16 9 15 4,oA 17 16 4,oK 18 0 5 17,⟨some 19,.binOp .eql 5 (.tmp 18) (.const (.int .u8 46)) 5,4,some (17,false)⟩,oQ 20 17 19 4,oA 21 20 4,oK 22 0 5 21,⟨some 23,.binOp .eql 5 (.tmp 22) (.const (.int .u8 95)) 5,4,some (21,false)⟩,oQ 24 21 23 4,oA 25 24 4,oK 26 0 5 25,⟨some 27,.binOp .eql 5 (.tmp 26) (.const (.int .u8 45)) 5,4,some (25,false)⟩,oQ 28 25 27 4,oB 2 28 4]) (.ret))⟩
theorem yph:zao Tryz.f195=some q195:=by kernel_rfl
abbrev ypi:FuncId:=196
def q196c0:zac:=.ops [oC 40 241 9 241,oA 41 8 3,oJ 42 3 41 1 3 3,oG 241 7 40 0,oB 6 42 3]
@[simp] theorem ypj:type_of% (zaa q196c0.eq_1):=zaa rfl
def q196c1:zac:=.seq (.ops [oA 32 0 9,oA 33 8 3,⟨some 34,.slice 9 (.tmp 32) (some (.const (.int .i64 1))) (some (.tmp 33)) none,9,none⟩,oI 35 215 34 9 242,oA 31 35 242,oM 36 31 0 241,oM 37 31 1 4,oP 9 241 0,oG 241 9 36 0,oB 10 37 4]) (.seq (.seq (.ops [oA 38 10 4,oU 39 4 38 4]) (.cond (.tmp 39) (.seq (.ops [oAF 2 211,oE 3 4]) (.ret)) (.skip))) (q196c0))
@[simp] theorem ypk:type_of% (zaa q196c1.eq_1):=zaa rfl
def q196c2:zac:=.seq (.ops [oA 48 4 211,oC 49 241 7 241,oY 50 211 1 0 49 211,oV 51 48 50 211 211 211,oB 4 51 211]) (.ops [oA 52 0 9,oA 53 6 3,⟨some 54,.slice 9 (.tmp 52) (some (.tmp 53)) none none,9,none⟩,oB 0 54 9])
@[simp] theorem ypl:type_of% (zaa q196c2.eq_1):=zaa rfl
def q196c3:zac:=.block 1 (.seq (.ops [oA 13 0 9,⟨some 14,.index 9 (.tmp 13) (.const (.int .i64 0)),5,none⟩,oP 5 5 0,oG 5 5 14 0]) (.seq (.ops [oH 6 1 3]) (.seq (.ops [⟨some 15,.build 241 #[],241,none⟩,oP 7 241 0,oG 241 7 15 0]) (.seq (.block 2 (.seq (.ops [oC 17 5 5 5,⟨some 18,.binOp .eql 5 (.tmp 17) (.const (.int .u8 42)) 5,4,none⟩,oB 16 18 4]) (.cond (.tmp 16) (.ops [oD 19 241 7 0 0,⟨none,.store 4 (.tmp 19) (.const (.bool true)),0,none⟩]) (.seq (.ops [oC 21 5 5 5,⟨some 22,.binOp .eql 5 (.tmp 21) (.const (.int .u8 63)) 5,4,none⟩,oB 20 22 4]) (.cond (.tmp 20) (.ops [oD 23 241 7 1 0,⟨none,.store 176 (.tmp 23) (.func 214),0,none⟩]) (.seq (.ops [oC 25 5 5 5,⟨some 26,.binOp .eql 5 (.tmp 25) (.const (.int .u8 91)) 5,4,none⟩,oB 24 26 4]) (.cond (.tmp 24) (.seq (.ops [oA 27 0 9,⟨some 28,.call {callee:=.value (.func 209),args:=#[.tmp 27,.const (.int .u8 93)],argTypes:=#[9,5]},3,none⟩,oB 8 28 3]) (.seq (.seq (.ops [oA 29 8 3,oAP 30 3 29 0 3 4]) (.cond (.tmp 30) (.seq (.ops [oAF 2 211,oE 3 4]) (.ret)) (.skip))) (q196c1))) (.seq (.ops [oC 44 5 5 5,oI 45 195 44 5 4,oB 43 45 4]) (.cond (.tmp 43) (.ops [⟨some 46,.makeFunc (.func 216) #[] #[.tmp 5],176,none⟩,oD 47 241 7 1 0,oG 176 47 46 0]) (.seq (.ops [oAF 2 211,oE 3 4]) (.ret))))))))))) (q196c2)))))
@[simp] theorem ypm:type_of% (zaa q196c3.eq_1):=zaa rfl
def q196l0:zac:=.seq (.seq (.ops [oA 11 0 9,⟨some 12,.binOp .neq 9 (.tmp 11) (.const (.string {data:=#[]})) 9,4,none⟩]) (.cond (.tmp 12) (.skip) (.exit 0))) (q196c3)
@[simp] theorem ypn:type_of% (zaa q196l0.eq_1):=zaa rfl
def q196c4:zac:=.seq (.ops [oA 55 4 211,oA 56 4 211,oF 57 56 211 3,oAL 58 3 57 0 3 4,oB 2 55 211,oB 3 58 4]) (.ret)
@[simp] theorem ypo:type_of% (zaa q196c4.eq_1):=zaa rfl
@[simp] def q196:QFn:=⟨59,[(.tmp 2,211),(.tmp 3,4)],.seq (.ops [oAF 2 211,oE 3 4]) (.seq (.ops [oAF 4 211]) (.seq (.block 0 (.loop q196l0)) (q196c4)))⟩
theorem ypp:zao Tryz.f196=some q196:=by kernel_rfl
abbrev ypq:FuncId:=199
@[simp] def q199:QFn:=⟨8,[(.tmp 4,9)],.seq (.ops [oN 4 9]) (.seq (.ops [oA 5 0 9,oA 6 1 9,oT 7 217 5 6 9 9 9,oB 4 7 9]) (.ret))⟩
theorem ypr:zao Tryz.f199=some q199:=by kernel_rfl
abbrev yps:FuncId:=200
@[simp] def q200:QFn:=⟨8,[(.tmp 3,4)],.seq (.ops [oZ 2 33 0 0,oE 3 4]) (.seq (.ops [oD 4 33 2 0 0,oC 5 9 4 9,oC 6 9 1 9,⟨some 7,.binOp .eql 9 (.tmp 5) (.tmp 6) 9,4,none⟩,oB 3 7 4]) (.ret))⟩
theorem ypt:zao Tryz.f200=some q200:=by kernel_rfl
abbrev yd3:FuncId:=211
def q211c0:zac:=.ops [oA 13 4 3,oJ 14 3 13 1 3 3,oB 4 14 3]
@[simp] theorem ypu:type_of% (zaa q211c0.eq_1):=zaa rfl
def q211c1:zac:=.seq (.block 1 (.draw [] [⟨some 15,.move (.tmp 3),207,none⟩,⟨some 16,.move (.tmp 0),22,none⟩,⟨some 17,.move (.tmp 4),3,none⟩,⟨some 18,.binOp .mul 3 (.const (.int .i64 4)) (.tmp 17) 3,3,none⟩,⟨some 19,.indexAddr 22 (.tmp 16) (.tmp 18),0,none⟩,⟨some 20,.load 5 (.tmp 19),5,none⟩,⟨some 21,.convert 5 206 (.tmp 20),206,none⟩,⟨some 22,.binOp .shl 206 (.tmp 21) (.const (.int .u64 24)) 210,206,none⟩,⟨some 23,.move (.tmp 0),22,none⟩,⟨some 24,.move (.tmp 4),3,none⟩,⟨some 25,.binOp .mul 3 (.const (.int .i64 4)) (.tmp 24) 3,3,none⟩,⟨some 26,.binOp .add 3 (.tmp 25) (.const (.int .i64 1)) 3,3,none⟩,⟨some 27,.indexAddr 22 (.tmp 23) (.tmp 26),0,none⟩,⟨some 28,.load 5 (.tmp 27),5,none⟩,⟨some 29,.convert 5 206 (.tmp 28),206,none⟩,⟨some 30,.binOp .shl 206 (.tmp 29) (.const (.int .u64 16)) 210,206,none⟩,⟨some 31,.binOp .or 206 (.tmp 22) (.tmp 30) 206,206,none⟩,⟨some 32,.move (.tmp 0),22,none⟩,⟨some 33,.move (.tmp 4),3,none⟩,⟨some 34,.binOp .mul 3 (.const (.int .i64 4)) (.tmp 33) 3,3,none⟩,⟨some 35,.binOp .add 3 (.tmp 34) (.const (.int .i64 2)) 3,3,none⟩,⟨some 36,.indexAddr 22 (.tmp 32) (.tmp 35),0,none⟩,⟨some 37,.load 5 (.tmp 36),5,none⟩,⟨some 38,.convert 5 206 (.tmp 37),206,none⟩,⟨some 39,.binOp .shl 206 (.tmp 38) (.const (.int .u64 8)) 210,206,none⟩,⟨some 40,.binOp .or 206 (.tmp 31) (.tmp 39) 206,206,none⟩,⟨some 41,.move (.tmp 0),22,none⟩,⟨some 42,.move (.tmp 4),3,none⟩,⟨some 43,.binOp .mul 3 (.const (.int .i64 4)) (.tmp 42) 3,3,none⟩,⟨some 44,.binOp .add 3 (.tmp 43) (.const (.int .i64 3)) 3,3,none⟩,⟨some 45,.indexAddr 22 (.tmp 41) (.tmp 44),0,none⟩,⟨some 46,.load 5 (.tmp 45),5,none⟩,⟨some 47,.convert 5 206 (.tmp 46),206,none⟩] [⟨some 48,.binOp .or 206 (.tmp 40) (.tmp 47) 206,206,none⟩,⟨some 49,.buildSlice 207 1 #[(0,.tmp 48)],207,none⟩,⟨some 50,.call {callee:=.builtin .append,args:=#[.tmp 15,.tmp 49],argTypes:=#[207,207]},207,none⟩,⟨some 3,.assign (.tmp 50),207,none⟩])) (q211c0)
@[simp] theorem ypv:type_of% (zaa q211c1.eq_1):=zaa rfl
def q211l0:zac:=.seq (.seq (.ops [oA 11 4 3,oAP 12 3 11 16 3 4]) (.cond (.tmp 12) (.skip) (.exit 0))) (q211c1)
@[simp] theorem ypw:type_of% (zaa q211l0.eq_1):=zaa rfl
def q211c2:zac:=.ops [oA 53 5 3,oJ 54 3 53 1 3 3,oB 5 54 3]
@[simp] theorem ypx:type_of% (zaa q211c2.eq_1):=zaa rfl
def q211c3:zac:=.seq (.block 3 (.seq (.ops [oA 55 3 207,oA 56 5 3,oAT 57 3 56 15 3 3,oS 58 207 55 57 0,oC 59 206 58 206,oB 6 59 206]) (.seq (.ops [oA 60 3 207,oA 61 5 3,oAT 62 3 61 2 3 3,oS 63 207 60 62 0,oC 64 206 63 206,oB 7 64 206]) (.seq (.ops [oA 65 6 206,oAG 66 213 65 7 206 3 206,oA 67 6 206,oAG 68 213 67 18 206 3 206,⟨some 69,.binOp .xor 206 (.tmp 66) (.tmp 68) 206,206,none⟩,oA 70 6 206,⟨some 71,.binOp .shr 206 (.tmp 70) (.const (.int .u64 3)) 210,206,none⟩,⟨some 72,.binOp .xor 206 (.tmp 69) (.tmp 71) 206,206,none⟩,oB 8 72 206]) (.seq (.ops [oA 73 7 206,oAG 74 213 73 17 206 3 206,oA 75 7 206,oAG 76 213 75 19 206 3 206,⟨some 77,.binOp .xor 206 (.tmp 74) (.tmp 76) 206,206,none⟩,oA 78 7 206,⟨some 79,.binOp .shr 206 (.tmp 78) (.const (.int .u64 10)) 210,206,none⟩,⟨some 80,.binOp .xor 206 (.tmp 77) (.tmp 79) 206,206,none⟩,oB 9 80 206]) (.draw [] [⟨some 81,.move (.tmp 3),207,none⟩,⟨some 82,.move (.tmp 3),207,none⟩,⟨some 83,.move (.tmp 5),3,none⟩,⟨some 84,.binOp .sub 3 (.tmp 83) (.const (.int .i64 16)) 3,3,none⟩,⟨some 85,.indexAddr 207 (.tmp 82) (.tmp 84),0,none⟩,⟨some 86,.load 206 (.tmp 85),206,none⟩,⟨some 87,.move (.tmp 8),206,none⟩,⟨some 88,.binOp .add 206 (.tmp 86) (.tmp 87) 206,206,none⟩,⟨some 89,.move (.tmp 3),207,none⟩,⟨some 90,.move (.tmp 5),3,none⟩,⟨some 91,.binOp .sub 3 (.tmp 90) (.const (.int .i64 7)) 3,3,none⟩,⟨some 92,.indexAddr 207 (.tmp 89) (.tmp 91),0,none⟩,⟨some 93,.load 206 (.tmp 92),206,none⟩,⟨some 94,.binOp .add 206 (.tmp 88) (.tmp 93) 206,206,none⟩,⟨some 95,.move (.tmp 9),206,none⟩] [⟨some 96,.binOp .add 206 (.tmp 94) (.tmp 95) 206,206,none⟩,⟨some 97,.buildSlice 207 1 #[(0,.tmp 96)],207,none⟩,⟨some 98,.call {callee:=.builtin .append,args:=#[.tmp 81,.tmp 97],argTypes:=#[207,207]},207,none⟩,⟨some 3,.assign (.tmp 98),207,none⟩])))))) (q211c2)
@[simp] theorem ypy:type_of% (zaa q211c3.eq_1):=zaa rfl
def q211l1:zac:=.seq (.seq (.ops [oA 51 5 3,oAP 52 3 51 64 3 4]) (.cond (.tmp 52) (.skip) (.exit 2))) (q211c3)
@[simp] theorem ypz:type_of% (zaa q211l1.eq_1):=zaa rfl
def q211c4:zac:=.seq (.ops [oA 99 3 207,oB 2 99 207]) (.ret)
@[simp] theorem yp0:type_of% (zaa q211c4.eq_1):=zaa rfl
def q211c5:zac:=.seq (.seq (.ops [oH 5 16 3]) (.block 2 (.loop q211l1))) (q211c4)
@[simp] theorem z2l:type_of% (zaa q211c5.eq_1):=zaa rfl
@[simp] def q211:QFn:=⟨100,[(.tmp 2,207)],.seq (.ops [oAF 2 207]) (.seq (.ops [⟨some 10,.makeSlice 207 (.const (.int .i64 0)) (.const (.int .i64 64)),207,none⟩,oB 3 10 207]) (.seq (.seq (.ops [oH 4 0 3]) (.block 0 (.loop q211l0))) (q211c5)))⟩
theorem yp1:zao Tryz.f211=some q211:=by kernel_rfl
abbrev yd4:FuncId:=212
@[simp] def q212:QFn:=⟨2,[(.tmp 0,207)],.seq (.ops [oAF 0 207]) (.seq (.ops [⟨some 1,.buildSlice 207 64 #[(0,.const (.int .u32 1116352408)),(1,.const (.int .u32 1899447441)),(2,.const (.int .u32 3049323471)),(3,.const (.int .u32 3921009573)),(4,.const (.int .u32 961987163)),(5,.const (.int .u32 1508970993)),(6,.const (.int .u32 2453635748)),(7,.const (.int .u32 2870763221)),(8,.const (.int .u32 3624381080)),(9,.const (.int .u32 310598401)),(10,.const (.int .u32 607225278)),(11,.const (.int .u32 1426881987)),(12,.const (.int .u32 1925078388)),(13,.const (.int .u32 2162078206)),(14,.const (.int .u32 2614888103)),(15,.const (.int .u32 3248222580)),(16,.const (.int .u32 3835390401)),(17,.const (.int .u32 4022224774)),(18,.const (.int .u32 264347078)),(19,.const (.int .u32 604807628)),(20,.const (.int .u32 770255983)),(21,.const (.int .u32 1249150122)),(22,.const (.int .u32 1555081692)),(23,.const (.int .u32 1996064986)),(24,.const (.int .u32 2554220882)),(25,.const (.int .u32 2821834349)),(26,.const (.int .u32 2952996808)),(27,.const (.int .u32 3210313671)),(28,.const (.int .u32 3336571891)),(29,.const (.int .u32 3584528711)),(30,.const (.int .u32 113926993)),(31,.const (.int .u32 338241895)),(32,.const (.int .u32 666307205)),(33,.const (.int .u32 773529912)),(34,.const (.int .u32 1294757372)),(35,.const (.int .u32 1396182291)),(36,.const (.int .u32 1695183700)),(37,.const (.int .u32 1986661051)),(38,.const (.int .u32 2177026350)),(39,.const (.int .u32 2456956037)),(40,.const (.int .u32 2730485921)),(41,.const (.int .u32 2820302411)),(42,.const (.int .u32 3259730800)),(43,.const (.int .u32 3345764771)),(44,.const (.int .u32 3516065817)),(45,.const (.int .u32 3600352804)),(46,.const (.int .u32 4094571909)),(47,.const (.int .u32 275423344)),(48,.const (.int .u32 430227734)),(49,.const (.int .u32 506948616)),(50,.const (.int .u32 659060556)),(51,.const (.int .u32 883997877)),(52,.const (.int .u32 958139571)),(53,.const (.int .u32 1322822218)),(54,.const (.int .u32 1537002063)),(55,.const (.int .u32 1747873779)),(56,.const (.int .u32 1955562222)),(57,.const (.int .u32 2024104815)),(58,.const (.int .u32 2227730452)),(59,.const (.int .u32 2361852424)),(60,.const (.int .u32 2428436474)),(61,.const (.int .u32 2756734187)),(62,.const (.int .u32 3204031479)),(63,.const (.int .u32 3329325298))],207,none⟩,oB 0 1 207]) (.ret))⟩
theorem yp2:zao Tryz.f212=some q212:=by kernel_rfl
abbrev yd5:FuncId:=213
@[simp] def q213:QFn:=⟨13,[(.tmp 4,206)],.seq (.ops [⟨some 4,.assign (.const (.int .u32 0)),206,none⟩]) (.seq (.draw [] [⟨some 5,.move (.tmp 0),206,none⟩,⟨some 6,.move (.tmp 1),3,none⟩,⟨some 7,.binOp .shr 206 (.tmp 5) (.tmp 6) 3,206,none⟩,⟨some 8,.move (.tmp 0),206,none⟩,⟨some 9,.move (.tmp 1),3,none⟩,⟨some 10,.binOp .sub 3 (.const (.int .i64 32)) (.tmp 9) 3,3,none⟩,⟨some 11,.binOp .shl 206 (.tmp 8) (.tmp 10) 3,206,none⟩] [⟨some 12,.binOp .or 206 (.tmp 7) (.tmp 11) 206,206,none⟩,⟨some 4,.assign (.tmp 12),206,none⟩]) (.ret))⟩
theorem yp3:zao Tryz.f213=some q213:=by kernel_rfl
abbrev yp4:FuncId:=215
def q215c0:zac:=.seq (.ops [⟨some 16,.makeFunc (.func 224) #[] #[.tmp 4,.tmp 5],176,none⟩,oB 6 16 176]) (.seq (.ops [oA 17 6 176,⟨some 18,.build 241 #[(1,.tmp 17)],241,none⟩,oG 241 2 18 0,oAB 3 4]) (.ret))
@[simp] theorem yp5:type_of% (zaa q215c0.eq_1):=zaa rfl
@[simp] def q215:QFn:=⟨19,[(.cell 2 241,241),(.tmp 3,4)],.seq (.ops [oP 2 241 0,oE 3 4]) (.seq (.ops [oA 8 0 9,⟨some 9,.call {callee:=.value (.func 223),args:=#[.tmp 8,.const (.string {data:=#[33]})],argTypes:=#[9,9]},101,none⟩,oA 7 9 101,oM 10 7 0 9,oM 11 7 1 4,oP 4 9 0,oP 5 4 0,oG 9 4 10 0,oG 4 5 11 0]) (.seq (.seq (.ops [oC 12 9 4 9,oI 13 175 12 9 4,oU 14 4 13 4]) (.cond (.tmp 14) (.seq (.ops [⟨some 15,.build 241 #[],241,none⟩,oG 241 2 15 0,oE 3 4]) (.ret)) (.skip))) (q215c0)))⟩
theorem yp6:zao Tryz.f215=some q215:=by kernel_rfl
abbrev yp7:FuncId:=217
def yd6:zac:=.seq (.ops [oA 12 0 9,oB 4 12 9]) (.ret)
@[simp] def q217:QFn:=⟨13,[(.tmp 4,9)],.seq (.ops [oN 4 9]) (.seq (.seq (.ops [oA 5 0 9,oA 6 1 9,oT 7 192 5 6 9 9 4]) (.cond (.tmp 7) (.seq (.ops [oA 8 0 9,oA 9 1 9,oF 10 9 9 3,⟨some 11,.slice 9 (.tmp 8) (some (.tmp 10)) none none,9,none⟩,oB 4 11 9]) (.ret)) (.skip))) (yd6))⟩
theorem yp8:zao Tryz.f217=some q217:=by kernel_rfl
abbrev yp9:FuncId:=223
@[simp] def q223:QFn:=⟨11,[(.tmp 4,9),(.tmp 5,4)],.seq (.ops [oN 4 9,oE 5 4]) (.seq (.ops [oA 6 0 9,oA 7 1 9,oT 8 225 6 7 9 9 101,oM 9 8 0 9,oM 10 8 1 4,oB 4 9 9,oB 5 10 4]) (.ret))⟩
theorem yqa:zao Tryz.f223=some q223:=by kernel_rfl
abbrev yqb:FuncId:=225
def q225c0:zac:=.seq (.ops [oA 11 0 9,oA 12 1 9,oF 13 12 9 3,⟨some 14,.slice 9 (.tmp 11) (some (.tmp 13)) none none,9,none⟩,oB 4 14 9,oAB 5 4]) (.ret)
@[simp] theorem yqc:type_of% (zaa q225c0.eq_1):=zaa rfl
@[simp] def q225:QFn:=⟨15,[(.tmp 4,9),(.tmp 5,4)],.seq (.ops [oN 4 9,oE 5 4]) (.seq (.seq (.ops [oA 6 0 9,oA 7 1 9,oT 8 192 6 7 9 9 4,oU 9 4 8 4]) (.cond (.tmp 9) (.seq (.ops [oA 10 0 9,oB 4 10 9,oE 5 4]) (.ret)) (.skip))) (q225c0))⟩
theorem yqd:zao Tryz.f225=some q225:=by kernel_rfl
end Go.Qz
