import Derived.Test.YtcadiohekccmiaaGreatDoorQr0
namespace Go.Qz
open Go.Proofs
def oA (a b c : Nat) : QOp := ⟨some a,.move (.tmp b),c,none⟩
@[simp] theorem ysh (a b c : Nat) : (oA a b c).dst = some a := (rfl)
@[simp] theorem oAop (a b c : Nat) : (oA a b c).op = .move (.tmp b) := (rfl)
@[simp] theorem oAty (a b c : Nat) : (oA a b c).ty = c := (rfl)
@[simp] theorem oAg (a b c : Nat) : (oA a b c).g = none := (rfl)
def oB (a b c : Nat) : QOp := ⟨some a,.assign (.tmp b),c,none⟩
@[simp] theorem ysi (a b c : Nat) : (oB a b c).dst = some a := (rfl)
@[simp] theorem oBop (a b c : Nat) : (oB a b c).op = .assign (.tmp b) := (rfl)
@[simp] theorem oBty (a b c : Nat) : (oB a b c).ty = c := (rfl)
@[simp] theorem oBg (a b c : Nat) : (oB a b c).g = none := (rfl)
def oC (a b c d : Nat) : QOp := ⟨some a,.load b (.tmp c),d,none⟩
@[simp] theorem ysj (a b c d : Nat) : (oC a b c d).dst = some a := (rfl)
@[simp] theorem oCop (a b c d : Nat) : (oC a b c d).op = .load b (.tmp c) := (rfl)
@[simp] theorem oCty (a b c d : Nat) : (oC a b c d).ty = d := (rfl)
@[simp] theorem oCg (a b c d : Nat) : (oC a b c d).g = none := (rfl)
def oD (a b c d e : Nat) : QOp := ⟨some a,.fieldAddr b (.tmp c) d,e,none⟩
@[simp] theorem ysk (a b c d e : Nat) : (oD a b c d e).dst = some a := (rfl)
@[simp] theorem oDop (a b c d e : Nat) : (oD a b c d e).op = .fieldAddr b (.tmp c) d := (rfl)
@[simp] theorem oDty (a b c d e : Nat) : (oD a b c d e).ty = e := (rfl)
@[simp] theorem oDg (a b c d e : Nat) : (oD a b c d e).g = none := (rfl)
def oE (a b : Nat) : QOp := ⟨some a,.assign (.const (.bool false)),b,none⟩
@[simp] theorem ysl (a b : Nat) : (oE a b).dst = some a := (rfl)
@[simp] theorem oEop (a b : Nat) : (oE a b).op = .assign (.const (.bool false)) := (rfl)
@[simp] theorem oEty (a b : Nat) : (oE a b).ty = b := (rfl)
@[simp] theorem oEg (a b : Nat) : (oE a b).g = none := (rfl)
def oF (a b c d : Nat) : QOp := ⟨some a,.call { callee := .builtin .len,args := #[.tmp b],argTypes := #[c] },d,none⟩
@[simp] theorem ysm (a b c d : Nat) : (oF a b c d).dst = some a := (rfl)
@[simp] theorem oFop (a b c d : Nat) : (oF a b c d).op = .call { callee := .builtin .len,args := #[.tmp b],argTypes := #[c] } := (rfl)
@[simp] theorem oFty (a b c d : Nat) : (oF a b c d).ty = d := (rfl)
@[simp] theorem oFg (a b c d : Nat) : (oF a b c d).g = none := (rfl)
def oG (a : Nat) (b : Int) (c : Nat) : QOp := ⟨some a,.assign (.const (.int .i64 b)),c,none⟩
@[simp] theorem ysn (a : Nat) (b : Int) (c : Nat) : (oG a b c).dst = some a := (rfl)
@[simp] theorem oGop (a : Nat) (b : Int) (c : Nat) : (oG a b c).op = .assign (.const (.int .i64 b)) := (rfl)
@[simp] theorem oGty (a : Nat) (b : Int) (c : Nat) : (oG a b c).ty = c := (rfl)
@[simp] theorem oGg (a : Nat) (b : Int) (c : Nat) : (oG a b c).g = none := (rfl)
def oH (a : Nat) (b : Nat) (c : Nat) (d : Int) (e : Nat) (f : Nat) : QOp := ⟨some a,.binOp .add b (.tmp c) (.const (.int .i64 d)) e,f,none⟩
@[simp] theorem yso (a : Nat) (b : Nat) (c : Nat) (d : Int) (e : Nat) (f : Nat) : (oH a b c d e f).dst = some a := (rfl)
@[simp] theorem oHop (a : Nat) (b : Nat) (c : Nat) (d : Int) (e : Nat) (f : Nat) : (oH a b c d e f).op = .binOp .add b (.tmp c) (.const (.int .i64 d)) e := (rfl)
@[simp] theorem oHty (a : Nat) (b : Nat) (c : Nat) (d : Int) (e : Nat) (f : Nat) : (oH a b c d e f).ty = f := (rfl)
@[simp] theorem oHg (a : Nat) (b : Nat) (c : Nat) (d : Int) (e : Nat) (f : Nat) : (oH a b c d e f).g = none := (rfl)
def oI (a b c d e f : Nat) : QOp := ⟨some a,.binOp .lss b (.tmp c) (.tmp d) e,f,none⟩
@[simp] theorem ysp (a b c d e f : Nat) : (oI a b c d e f).dst = some a := (rfl)
@[simp] theorem oIop (a b c d e f : Nat) : (oI a b c d e f).op = .binOp .lss b (.tmp c) (.tmp d) e := (rfl)
@[simp] theorem oIty (a b c d e f : Nat) : (oI a b c d e f).ty = f := (rfl)
@[simp] theorem oIg (a b c d e f : Nat) : (oI a b c d e f).g = none := (rfl)
def oJ (a b c d e : Nat) : QOp := ⟨some a,.call { callee := .value (.func b),args := #[.tmp c],argTypes := #[d] },e,none⟩
@[simp] theorem ysq (a b c d e : Nat) : (oJ a b c d e).dst = some a := (rfl)
@[simp] theorem oJop (a b c d e : Nat) : (oJ a b c d e).op = .call { callee := .value (.func b),args := #[.tmp c],argTypes := #[d] } := (rfl)
@[simp] theorem oJty (a b c d e : Nat) : (oJ a b c d e).ty = e := (rfl)
@[simp] theorem oJg (a b c d e : Nat) : (oJ a b c d e).g = none := (rfl)
def oK (a b c d : Nat) : QOp := ⟨some a,.move (.tmp b),c,some (d,false)⟩
@[simp] theorem ysr (a b c d : Nat) : (oK a b c d).dst = some a := (rfl)
@[simp] theorem oKop (a b c d : Nat) : (oK a b c d).op = .move (.tmp b) := (rfl)
@[simp] theorem oKty (a b c d : Nat) : (oK a b c d).ty = c := (rfl)
@[simp] theorem oKg (a b c d : Nat) : (oK a b c d).g = some (d,false) := (rfl)
def oL (a b c d : Nat) : QOp := ⟨none,.store a (.tmp b) (.tmp c),d,none⟩
@[simp] theorem yss (a b c d : Nat) : (oL a b c d).dst = none := (rfl)
@[simp] theorem oLop (a b c d : Nat) : (oL a b c d).op = .store a (.tmp b) (.tmp c) := (rfl)
@[simp] theorem oLty (a b c d : Nat) : (oL a b c d).ty = d := (rfl)
@[simp] theorem oLg (a b c d : Nat) : (oL a b c d).g = none := (rfl)
def oM (a b c d e : Nat) : QOp := ⟨some a,.indexAddr b (.tmp c) (.tmp d),e,none⟩
@[simp] theorem yst (a b c d e : Nat) : (oM a b c d e).dst = some a := (rfl)
@[simp] theorem oMop (a b c d e : Nat) : (oM a b c d e).op = .indexAddr b (.tmp c) (.tmp d) := (rfl)
@[simp] theorem oMty (a b c d e : Nat) : (oM a b c d e).ty = e := (rfl)
@[simp] theorem oMg (a b c d e : Nat) : (oM a b c d e).g = none := (rfl)
def oN (a b c d : Nat) : QOp := ⟨some a,.box b (.tmp c),d,none⟩
@[simp] theorem ysu (a b c d : Nat) : (oN a b c d).dst = some a := (rfl)
@[simp] theorem oNop (a b c d : Nat) : (oN a b c d).op = .box b (.tmp c) := (rfl)
@[simp] theorem oNty (a b c d : Nat) : (oN a b c d).ty = d := (rfl)
@[simp] theorem oNg (a b c d : Nat) : (oN a b c d).g = none := (rfl)
def oO (a b : Nat) : QOp := ⟨some a,.assign (.const (.string { data := #[] })),b,none⟩
@[simp] theorem ysv (a b : Nat) : (oO a b).dst = some a := (rfl)
@[simp] theorem oOop (a b : Nat) : (oO a b).op = .assign (.const (.string { data := #[] })) := (rfl)
@[simp] theorem oOty (a b : Nat) : (oO a b).ty = b := (rfl)
@[simp] theorem oOg (a b : Nat) : (oO a b).g = none := (rfl)
def oP (a b c d : Nat) : QOp := ⟨some a,.pick (.tmp b) (.const (.bool true)) (.tmp c),d,none⟩
@[simp] theorem ysw (a b c d : Nat) : (oP a b c d).dst = some a := (rfl)
@[simp] theorem oPop (a b c d : Nat) : (oP a b c d).op = .pick (.tmp b) (.const (.bool true)) (.tmp c) := (rfl)
@[simp] theorem oPty (a b c d : Nat) : (oP a b c d).ty = d := (rfl)
@[simp] theorem oPg (a b c d : Nat) : (oP a b c d).g = none := (rfl)
def oQ (a b c d : Nat) : QOp := ⟨some a,.move (.tmp b),c,some (d,true)⟩
@[simp] theorem ysx (a b c d : Nat) : (oQ a b c d).dst = some a := (rfl)
@[simp] theorem oQop (a b c d : Nat) : (oQ a b c d).op = .move (.tmp b) := (rfl)
@[simp] theorem oQty (a b c d : Nat) : (oQ a b c d).ty = c := (rfl)
@[simp] theorem oQg (a b c d : Nat) : (oQ a b c d).g = some (d,true) := (rfl)
def oR (a b c : Nat) : QOp := ⟨some a,.alloc b,c,none⟩
@[simp] theorem ysy (a b c : Nat) : (oR a b c).dst = some a := (rfl)
@[simp] theorem oRop (a b c : Nat) : (oR a b c).op = .alloc b := (rfl)
@[simp] theorem oRty (a b c : Nat) : (oR a b c).ty = c := (rfl)
@[simp] theorem oRg (a b c : Nat) : (oR a b c).g = none := (rfl)
def oS (a b c d : Nat) : QOp := ⟨some a,.unOp .not b (.tmp c),d,none⟩
@[simp] theorem ysz (a b c d : Nat) : (oS a b c d).dst = some a := (rfl)
@[simp] theorem oSop (a b c d : Nat) : (oS a b c d).op = .unOp .not b (.tmp c) := (rfl)
@[simp] theorem oSty (a b c d : Nat) : (oS a b c d).ty = d := (rfl)
@[simp] theorem oSg (a b c d : Nat) : (oS a b c d).g = none := (rfl)
def oT (a b c d : Nat) : QOp := ⟨some a,.extract (.tmp b) c,d,none⟩
@[simp] theorem ys0 (a b c d : Nat) : (oT a b c d).dst = some a := (rfl)
@[simp] theorem oTop (a b c d : Nat) : (oT a b c d).op = .extract (.tmp b) c := (rfl)
@[simp] theorem oTty (a b c d : Nat) : (oT a b c d).ty = d := (rfl)
@[simp] theorem oTg (a b c d : Nat) : (oT a b c d).g = none := (rfl)
def oU (a b c d : Nat) : QOp := ⟨some a,.pick (.tmp b) (.tmp c) (.const (.bool false)),d,none⟩
@[simp] theorem ys1 (a b c d : Nat) : (oU a b c d).dst = some a := (rfl)
@[simp] theorem oUop (a b c d : Nat) : (oU a b c d).op = .pick (.tmp b) (.tmp c) (.const (.bool false)) := (rfl)
@[simp] theorem oUty (a b c d : Nat) : (oU a b c d).ty = d := (rfl)
@[simp] theorem oUg (a b c d : Nat) : (oU a b c d).g = none := (rfl)
def oV (a b c d e f g : Nat) : QOp := ⟨some a,.call { callee := .value (.func b),args := #[.tmp c,.tmp d],argTypes := #[e,f] },g,none⟩
@[simp] theorem ys2 (a b c d e f g : Nat) : (oV a b c d e f g).dst = some a := (rfl)
@[simp] theorem oVop (a b c d e f g : Nat) : (oV a b c d e f g).op = .call { callee := .value (.func b),args := #[.tmp c,.tmp d],argTypes := #[e,f] } := (rfl)
@[simp] theorem oVty (a b c d e f g : Nat) : (oV a b c d e f g).ty = g := (rfl)
@[simp] theorem oVg (a b c d e f g : Nat) : (oV a b c d e f g).g = none := (rfl)
def oW (a : Nat) (b : Nat) (c : Nat) (d : Int) (e : Nat) (f : Nat) : QOp := ⟨some a,.binOp .lss b (.tmp c) (.const (.int .i64 d)) e,f,none⟩
@[simp] theorem ys3 (a : Nat) (b : Nat) (c : Nat) (d : Int) (e : Nat) (f : Nat) : (oW a b c d e f).dst = some a := (rfl)
@[simp] theorem oWop (a : Nat) (b : Nat) (c : Nat) (d : Int) (e : Nat) (f : Nat) : (oW a b c d e f).op = .binOp .lss b (.tmp c) (.const (.int .i64 d)) e := (rfl)
@[simp] theorem oWty (a : Nat) (b : Nat) (c : Nat) (d : Int) (e : Nat) (f : Nat) : (oW a b c d e f).ty = f := (rfl)
@[simp] theorem oWg (a : Nat) (b : Nat) (c : Nat) (d : Int) (e : Nat) (f : Nat) : (oW a b c d e f).g = none := (rfl)
def oX (a b : Nat) : QOp := ⟨some a,.assign (.const (.int .i64 (-1))),b,none⟩
@[simp] theorem ys4 (a b : Nat) : (oX a b).dst = some a := (rfl)
@[simp] theorem oXop (a b : Nat) : (oX a b).op = .assign (.const (.int .i64 (-1))) := (rfl)
@[simp] theorem oXty (a b : Nat) : (oX a b).ty = b := (rfl)
@[simp] theorem oXg (a b : Nat) : (oX a b).g = none := (rfl)
def oY (a b : Nat) : QOp := ⟨some a,.assign (.const (.bool true)),b,none⟩
@[simp] theorem ys5 (a b : Nat) : (oY a b).dst = some a := (rfl)
@[simp] theorem oYop (a b : Nat) : (oY a b).op = .assign (.const (.bool true)) := (rfl)
@[simp] theorem oYty (a b : Nat) : (oY a b).ty = b := (rfl)
@[simp] theorem oYg (a b : Nat) : (oY a b).g = none := (rfl)
def oZ (a : Nat) (b : Int) (c : Nat) : QOp := ⟨some a,.move (.const (.int .i64 b)),c,none⟩
@[simp] theorem ys6 (a : Nat) (b : Int) (c : Nat) : (oZ a b c).dst = some a := (rfl)
@[simp] theorem oZop (a : Nat) (b : Int) (c : Nat) : (oZ a b c).op = .move (.const (.int .i64 b)) := (rfl)
@[simp] theorem oZty (a : Nat) (b : Int) (c : Nat) : (oZ a b c).ty = c := (rfl)
@[simp] theorem oZg (a : Nat) (b : Int) (c : Nat) : (oZ a b c).g = none := (rfl)
def oAA (a b c d e : Nat) : QOp := ⟨some a,.call { callee := .value (.tmp b),args := #[.tmp c],argTypes := #[d] },e,none⟩
@[simp] theorem yl1 (a b c d e : Nat) : (oAA a b c d e).dst = some a := (rfl)
@[simp] theorem ys7 (a b c d e : Nat) : (oAA a b c d e).op = .call { callee := .value (.tmp b),args := #[.tmp c],argTypes := #[d] } := (rfl)
@[simp] theorem ys8 (a b c d e : Nat) : (oAA a b c d e).ty = e := (rfl)
@[simp] theorem oAAg (a b c d e : Nat) : (oAA a b c d e).g = none := (rfl)
def oAB (a b : Nat) : QOp := ⟨some a,.assign (.const (.slice none 0 0)),b,none⟩
@[simp] theorem yl2 (a b : Nat) : (oAB a b).dst = some a := (rfl)
@[simp] theorem ys9 (a b : Nat) : (oAB a b).op = .assign (.const (.slice none 0 0)) := (rfl)
@[simp] theorem yta (a b : Nat) : (oAB a b).ty = b := (rfl)
@[simp] theorem oABg (a b : Nat) : (oAB a b).g = none := (rfl)
def oAC (a b c d e f : Nat) : QOp := ⟨some a,.call { callee := .builtin .append,args := #[.tmp b,.tmp c],argTypes := #[d,e] },f,none⟩
@[simp] theorem yl3 (a b c d e f : Nat) : (oAC a b c d e f).dst = some a := (rfl)
@[simp] theorem ytb (a b c d e f : Nat) : (oAC a b c d e f).op = .call { callee := .builtin .append,args := #[.tmp b,.tmp c],argTypes := #[d,e] } := (rfl)
@[simp] theorem ytc (a b c d e f : Nat) : (oAC a b c d e f).ty = f := (rfl)
@[simp] theorem oACg (a b c d e f : Nat) : (oAC a b c d e f).g = none := (rfl)
def oAD (a b c d e f : Nat) : QOp := ⟨some a,.fieldAddr b (.tmp c) d,e,some (f,true)⟩
@[simp] theorem yl4 (a b c d e f : Nat) : (oAD a b c d e f).dst = some a := (rfl)
@[simp] theorem ytd (a b c d e f : Nat) : (oAD a b c d e f).op = .fieldAddr b (.tmp c) d := (rfl)
@[simp] theorem yte (a b c d e f : Nat) : (oAD a b c d e f).ty = e := (rfl)
@[simp] theorem oADg (a b c d e f : Nat) : (oAD a b c d e f).g = some (f,true) := (rfl)
def oAE (a b c d e : Nat) : QOp := ⟨some a,.load b (.tmp c),d,some (e,true)⟩
@[simp] theorem yl5 (a b c d e : Nat) : (oAE a b c d e).dst = some a := (rfl)
@[simp] theorem ytf (a b c d e : Nat) : (oAE a b c d e).op = .load b (.tmp c) := (rfl)
@[simp] theorem ytg (a b c d e : Nat) : (oAE a b c d e).ty = d := (rfl)
@[simp] theorem oAEg (a b c d e : Nat) : (oAE a b c d e).g = some (e,true) := (rfl)
def oAF (a b c d e f : Nat) : QOp := ⟨some a,.buildSlice b c #[(d,.tmp e)],f,none⟩
@[simp] theorem yl6 (a b c d e f : Nat) : (oAF a b c d e f).dst = some a := (rfl)
@[simp] theorem yth (a b c d e f : Nat) : (oAF a b c d e f).op = .buildSlice b c #[(d,.tmp e)] := (rfl)
@[simp] theorem yti (a b c d e f : Nat) : (oAF a b c d e f).ty = f := (rfl)
@[simp] theorem oAFg (a b c d e f : Nat) : (oAF a b c d e f).g = none := (rfl)
def oAG (a b c d e f : Nat) : QOp := ⟨some a,.binOp .neq b (.tmp c) (.tmp d) e,f,none⟩
@[simp] theorem yl7 (a b c d e f : Nat) : (oAG a b c d e f).dst = some a := (rfl)
@[simp] theorem ytj (a b c d e f : Nat) : (oAG a b c d e f).op = .binOp .neq b (.tmp c) (.tmp d) e := (rfl)
@[simp] theorem ytk (a b c d e f : Nat) : (oAG a b c d e f).ty = f := (rfl)
@[simp] theorem oAGg (a b c d e f : Nat) : (oAG a b c d e f).g = none := (rfl)
def oAH (a b c d e : Nat) : QOp := ⟨some a,.index b (.tmp c) (.tmp d),e,none⟩
@[simp] theorem yl8 (a b c d e : Nat) : (oAH a b c d e).dst = some a := (rfl)
@[simp] theorem ytl (a b c d e : Nat) : (oAH a b c d e).op = .index b (.tmp c) (.tmp d) := (rfl)
@[simp] theorem ytm (a b c d e : Nat) : (oAH a b c d e).ty = e := (rfl)
@[simp] theorem oAHg (a b c d e : Nat) : (oAH a b c d e).g = none := (rfl)
def oAI (a b c d e f : Nat) : QOp := ⟨some a,.binOp .sub b (.tmp c) (.tmp d) e,f,none⟩
@[simp] theorem yl9 (a b c d e f : Nat) : (oAI a b c d e f).dst = some a := (rfl)
@[simp] theorem ytn (a b c d e f : Nat) : (oAI a b c d e f).op = .binOp .sub b (.tmp c) (.tmp d) e := (rfl)
@[simp] theorem yto (a b c d e f : Nat) : (oAI a b c d e f).ty = f := (rfl)
@[simp] theorem oAIg (a b c d e f : Nat) : (oAI a b c d e f).g = none := (rfl)
def oAJ (a b c d e : Nat) : QOp := ⟨some a,.load b (.tmp c),d,some (e,false)⟩
@[simp] theorem yma (a b c d e : Nat) : (oAJ a b c d e).dst = some a := (rfl)
@[simp] theorem ytp (a b c d e : Nat) : (oAJ a b c d e).op = .load b (.tmp c) := (rfl)
@[simp] theorem ytq (a b c d e : Nat) : (oAJ a b c d e).ty = d := (rfl)
@[simp] theorem oAJg (a b c d e : Nat) : (oAJ a b c d e).g = some (e,false) := (rfl)
def oAK (a b c d e f : Nat) : QOp := ⟨some a,.binOp .add b (.tmp c) (.tmp d) e,f,none⟩
@[simp] theorem ymb (a b c d e f : Nat) : (oAK a b c d e f).dst = some a := (rfl)
@[simp] theorem ytr (a b c d e f : Nat) : (oAK a b c d e f).op = .binOp .add b (.tmp c) (.tmp d) e := (rfl)
@[simp] theorem yts (a b c d e f : Nat) : (oAK a b c d e f).ty = f := (rfl)
@[simp] theorem oAKg (a b c d e f : Nat) : (oAK a b c d e f).g = none := (rfl)
def oAL (a b c d e f : Nat) : QOp := ⟨some a,.fieldAddr b (.tmp c) d,e,some (f,false)⟩
@[simp] theorem ymc (a b c d e f : Nat) : (oAL a b c d e f).dst = some a := (rfl)
@[simp] theorem ytt (a b c d e f : Nat) : (oAL a b c d e f).op = .fieldAddr b (.tmp c) d := (rfl)
@[simp] theorem ytu (a b c d e f : Nat) : (oAL a b c d e f).ty = e := (rfl)
@[simp] theorem oALg (a b c d e f : Nat) : (oAL a b c d e f).g = some (f,false) := (rfl)
def oAM (a : Nat) (b : Nat) (c : Nat) (d : Int) (e : Nat) (f : Nat) : QOp := ⟨some a,.binOp .eql b (.tmp c) (.const (.int .i64 d)) e,f,none⟩
@[simp] theorem ymd (a : Nat) (b : Nat) (c : Nat) (d : Int) (e : Nat) (f : Nat) : (oAM a b c d e f).dst = some a := (rfl)
@[simp] theorem ytv (a : Nat) (b : Nat) (c : Nat) (d : Int) (e : Nat) (f : Nat) : (oAM a b c d e f).op = .binOp .eql b (.tmp c) (.const (.int .i64 d)) e := (rfl)
@[simp] theorem ytw (a : Nat) (b : Nat) (c : Nat) (d : Int) (e : Nat) (f : Nat) : (oAM a b c d e f).ty = f := (rfl)
@[simp] theorem oAMg (a : Nat) (b : Nat) (c : Nat) (d : Int) (e : Nat) (f : Nat) : (oAM a b c d e f).g = none := (rfl)
def oAN (a b c d e f : Nat) : QOp := ⟨some a,.call { callee := .value (.func b),args := #[.tmp c],argTypes := #[d] },e,some (f,true)⟩
@[simp] theorem yme (a b c d e f : Nat) : (oAN a b c d e f).dst = some a := (rfl)
@[simp] theorem ytx (a b c d e f : Nat) : (oAN a b c d e f).op = .call { callee := .value (.func b),args := #[.tmp c],argTypes := #[d] } := (rfl)
@[simp] theorem yty (a b c d e f : Nat) : (oAN a b c d e f).ty = e := (rfl)
@[simp] theorem oANg (a b c d e f : Nat) : (oAN a b c d e f).g = some (f,true) := (rfl)
def oAO (a b c d e f : Nat) : QOp := ⟨some a,.index b (.tmp c) (.tmp d),e,some (f,false)⟩
@[simp] theorem ymf (a b c d e f : Nat) : (oAO a b c d e f).dst = some a := (rfl)
@[simp] theorem ytz (a b c d e f : Nat) : (oAO a b c d e f).op = .index b (.tmp c) (.tmp d) := (rfl)
@[simp] theorem yt0 (a b c d e f : Nat) : (oAO a b c d e f).ty = e := (rfl)
@[simp] theorem oAOg (a b c d e f : Nat) : (oAO a b c d e f).g = some (f,false) := (rfl)
def oAP (a : Nat) (b : Nat) (c : Nat) (d : Int) (e : Nat) (f : Nat) : QOp := ⟨some a,.binOp .gtr b (.tmp c) (.const (.int .i64 d)) e,f,none⟩
@[simp] theorem ymg (a : Nat) (b : Nat) (c : Nat) (d : Int) (e : Nat) (f : Nat) : (oAP a b c d e f).dst = some a := (rfl)
@[simp] theorem yt1 (a : Nat) (b : Nat) (c : Nat) (d : Int) (e : Nat) (f : Nat) : (oAP a b c d e f).op = .binOp .gtr b (.tmp c) (.const (.int .i64 d)) e := (rfl)
@[simp] theorem yt2 (a : Nat) (b : Nat) (c : Nat) (d : Int) (e : Nat) (f : Nat) : (oAP a b c d e f).ty = f := (rfl)
@[simp] theorem oAPg (a : Nat) (b : Nat) (c : Nat) (d : Int) (e : Nat) (f : Nat) : (oAP a b c d e f).g = none := (rfl)
def oAQ (a b c d e f : Nat) : QOp := ⟨some a,.call { callee := .value (.func b),args := #[.tmp c],argTypes := #[d] },e,some (f,false)⟩
@[simp] theorem ymh (a b c d e f : Nat) : (oAQ a b c d e f).dst = some a := (rfl)
@[simp] theorem yt3 (a b c d e f : Nat) : (oAQ a b c d e f).op = .call { callee := .value (.func b),args := #[.tmp c],argTypes := #[d] } := (rfl)
@[simp] theorem yt4 (a b c d e f : Nat) : (oAQ a b c d e f).ty = e := (rfl)
@[simp] theorem oAQg (a b c d e f : Nat) : (oAQ a b c d e f).g = some (f,false) := (rfl)
def oAR (a b c d e : Nat) : QOp := ⟨some a,.call { callee := .builtin .len,args := #[.tmp b],argTypes := #[c] },d,some (e,false)⟩
@[simp] theorem ymi (a b c d e : Nat) : (oAR a b c d e).dst = some a := (rfl)
@[simp] theorem yt5 (a b c d e : Nat) : (oAR a b c d e).op = .call { callee := .builtin .len,args := #[.tmp b],argTypes := #[c] } := (rfl)
@[simp] theorem yt6 (a b c d e : Nat) : (oAR a b c d e).ty = d := (rfl)
@[simp] theorem oARg (a b c d e : Nat) : (oAR a b c d e).g = some (e,false) := (rfl)
def oAS (a : Nat) (b : Nat) (c : Nat) (d : Int) (e : Nat) (f : Nat) (g : Nat) : QOp := ⟨some a,.binOp .gtr b (.tmp c) (.const (.int .u8 d)) e,f,some (g,false)⟩
@[simp] theorem ymj (a : Nat) (b : Nat) (c : Nat) (d : Int) (e : Nat) (f : Nat) (g : Nat) : (oAS a b c d e f g).dst = some a := (rfl)
@[simp] theorem yt7 (a : Nat) (b : Nat) (c : Nat) (d : Int) (e : Nat) (f : Nat) (g : Nat) : (oAS a b c d e f g).op = .binOp .gtr b (.tmp c) (.const (.int .u8 d)) e := (rfl)
@[simp] theorem yt8 (a : Nat) (b : Nat) (c : Nat) (d : Int) (e : Nat) (f : Nat) (g : Nat) : (oAS a b c d e f g).ty = f := (rfl)
@[simp] theorem oASg (a : Nat) (b : Nat) (c : Nat) (d : Int) (e : Nat) (f : Nat) (g : Nat) : (oAS a b c d e f g).g = some (g,false) := (rfl)
def oAT (a : Nat) (b : Nat) (c : Nat) (d : Int) (e : Nat) (f : Nat) (g : Nat) : QOp := ⟨some a,.binOp .leq b (.tmp c) (.const (.int .u8 d)) e,f,some (g,true)⟩
@[simp] theorem ymk (a : Nat) (b : Nat) (c : Nat) (d : Int) (e : Nat) (f : Nat) (g : Nat) : (oAT a b c d e f g).dst = some a := (rfl)
@[simp] theorem yt9 (a : Nat) (b : Nat) (c : Nat) (d : Int) (e : Nat) (f : Nat) (g : Nat) : (oAT a b c d e f g).op = .binOp .leq b (.tmp c) (.const (.int .u8 d)) e := (rfl)
@[simp] theorem yua (a : Nat) (b : Nat) (c : Nat) (d : Int) (e : Nat) (f : Nat) (g : Nat) : (oAT a b c d e f g).ty = f := (rfl)
@[simp] theorem oATg (a : Nat) (b : Nat) (c : Nat) (d : Int) (e : Nat) (f : Nat) (g : Nat) : (oAT a b c d e f g).g = some (g,true) := (rfl)
def oAU (a b c d e : Nat) : QOp := ⟨some a,.call { callee := .builtin .len,args := #[.tmp b],argTypes := #[c] },d,some (e,true)⟩
@[simp] theorem yml (a b c d e : Nat) : (oAU a b c d e).dst = some a := (rfl)
@[simp] theorem yub (a b c d e : Nat) : (oAU a b c d e).op = .call { callee := .builtin .len,args := #[.tmp b],argTypes := #[c] } := (rfl)
@[simp] theorem yuc (a b c d e : Nat) : (oAU a b c d e).ty = d := (rfl)
@[simp] theorem oAUg (a b c d e : Nat) : (oAU a b c d e).g = some (e,true) := (rfl)
def oAV (a b c d e f g h : Nat) : QOp := ⟨some a,.call { callee := .value (.func b),args := #[.tmp c,.func d],argTypes := #[e,f] },g,some (h,true)⟩
@[simp] theorem ymm (a b c d e f g h : Nat) : (oAV a b c d e f g h).dst = some a := (rfl)
@[simp] theorem yud (a b c d e f g h : Nat) : (oAV a b c d e f g h).op = .call { callee := .value (.func b),args := #[.tmp c,.func d],argTypes := #[e,f] } := (rfl)
@[simp] theorem yue (a b c d e f g h : Nat) : (oAV a b c d e f g h).ty = g := (rfl)
@[simp] theorem oAVg (a b c d e f g h : Nat) : (oAV a b c d e f g h).g = some (h,true) := (rfl)
def oAW (a : Nat) (b : Nat) (c : Nat) (d : Int) (e : Int) (f : Nat) (g : Nat) (h : Nat) (i : Nat) : QOp := ⟨some a,.call { callee := .value (.func b),args := #[.tmp c,.const (.int .i64 d),.const (.int .i64 e)],argTypes := #[f,g,h] },i,none⟩
@[simp] theorem ymn (a : Nat) (b : Nat) (c : Nat) (d : Int) (e : Int) (f : Nat) (g : Nat) (h : Nat) (i : Nat) : (oAW a b c d e f g h i).dst = some a := (rfl)
@[simp] theorem yuf (a : Nat) (b : Nat) (c : Nat) (d : Int) (e : Int) (f : Nat) (g : Nat) (h : Nat) (i : Nat) : (oAW a b c d e f g h i).op = .call { callee := .value (.func b),args := #[.tmp c,.const (.int .i64 d),.const (.int .i64 e)],argTypes := #[f,g,h] } := (rfl)
@[simp] theorem yug (a : Nat) (b : Nat) (c : Nat) (d : Int) (e : Int) (f : Nat) (g : Nat) (h : Nat) (i : Nat) : (oAW a b c d e f g h i).ty = i := (rfl)
@[simp] theorem oAWg (a : Nat) (b : Nat) (c : Nat) (d : Int) (e : Int) (f : Nat) (g : Nat) (h : Nat) (i : Nat) : (oAW a b c d e f g h i).g = none := (rfl)
theorem zaa {q r : zab} (h : q = r) (c : Ctx) (e : Env) (ks : List Fr) : Run c q e ks = Run c r e ks := h ▸ rfl
abbrev Fn8 : FuncId := 8
def q8c0 : zab := .seq (.ops [oY 2 4]) (.ret)
@[simp] theorem yuh : type_of% (zaa q8c0.eq_1) := zaa rfl
def q8c1 : zab := .seq (.seq (.draw [] [⟨some 22,.load 29 (.tmp 5),29,none⟩,⟨some 23,.load 44 (.tmp 1),44,none⟩,⟨some 24,.call { callee := .value (.func 19),args := #[.tmp 23],argTypes := #[44] },29,none⟩] [⟨some 25,.call { callee := .value (.func 20),args := #[.tmp 22,.tmp 24],argTypes := #[29,29] },4,none⟩,⟨some 26,.unOp .not 4 (.tmp 25),4,none⟩]) (.cond (.tmp 26) (.seq (.ops [oE 2 4]) (.ret)) (.skip))) (q8c0)
@[simp] theorem yui : type_of% (zaa q8c1.eq_1) := zaa rfl
def q8c2 : zab := .seq (.ops [oC 12 44 1 44,oJ 13 19 12 44 29,oJ 14 25 13 29 9,oB 4 14 9]) (.seq (.ops [oC 15 44 1 44,oJ 16 19 15 44 29,oR 5 29 0,oL 29 5 16 0]) (.seq (.ops [oC 17 29 5 29,oJ 18 26 17 29 9,oB 6 18 9]) (.seq (.seq (.ops [oA 19 6 9,oA 20 4 9,oAG 21 9 19 20 9 4]) (.cond (.tmp 21) (.seq (.ops [oE 2 4]) (.ret)) (.skip))) (q8c1))))
@[simp] theorem yuj : type_of% (zaa q8c2.eq_1) := zaa rfl
@[simp] def q8 : QFn := ⟨27,[(.tmp 2,4)],.seq (.ops [oN 1 44 0 0,oE 2 4]) (.seq (.ops [oG 3 1048576 3]) (.seq (.ops [oC 7 44 1 44,oA 8 3 3,oV 9 18 7 8 44 3 3,oB 3 9 3]) (.seq (.seq (.ops [oA 10 3 3,oW 11 3 10 0 3 4]) (.cond (.tmp 11) (.seq (.ops [oY 2 4]) (.ret)) (.skip))) (q8c2))))⟩
theorem Cv8 : zan Tryz.f8 = some q8 := by kernel_rfl
abbrev Fn12 : FuncId := 12
def q12c0 : zab := .seq (.ops [oC 11 29 1 29,oJ 12 37 11 29 61,oA 10 12 61,oT 13 10 0 27,oT 14 10 1 3,oB 3 13 27,oB 4 14 3]) (.seq (.ops [oA 15 4 3,oB 2 15 3]) (.ret))
@[simp] theorem ymo : type_of% (zaa q12c0.eq_1) := zaa rfl
def q12c1 : zab := .seq (.seq (.ops [oC 8 29 1 29,oJ 9 36 8 29 4]) (.cond (.tmp 9) (.seq (.ops [oG 2 2 3]) (.ret)) (.skip))) (q12c0)
@[simp] theorem ymp : type_of% (zaa q12c1.eq_1) := zaa rfl
@[simp] def q12 : QFn := ⟨16,[(.tmp 2,3)],.seq (.ops [oN 1 29 0 0,oG 2 0 3]) (.seq (.seq (.ops [oC 5 29 1 29,oJ 6 35 5 29 4,oS 7 4 6 4]) (.cond (.tmp 7) (.seq (.ops [oG 2 1 3]) (.ret)) (.skip))) (q12c1))⟩
theorem Cv12 : zan Tryz.f12 = some q12 := by kernel_rfl
abbrev Fn13 : FuncId := 13
def q13c0 : zab := .ops [oA 19 3 3,oH 20 3 19 1 3 3,oB 3 20 3]
@[simp] theorem ymq : type_of% (zaa q13c0.eq_1) := zaa rfl
def q13c1 : zab := .seq (.block 1 (.seq (.draw [] [⟨some 22,.load 29 (.tmp 1),29,none⟩,⟨some 23,.call { callee := .value (.func 41),args := #[.tmp 22],argTypes := #[29] },23,none⟩,⟨some 24,.fieldAddr 29 (.tmp 1) 2,0,none⟩,⟨some 25,.load 23 (.tmp 24),23,none⟩,⟨some 26,.move (.tmp 3),3,none⟩,⟨some 27,.indexAddr 23 (.tmp 25) (.tmp 26),0,none⟩,⟨some 28,.fieldAddr 33 (.tmp 27) 0,0,none⟩,⟨some 29,.load 9 (.tmp 28),9,none⟩,⟨some 30,.binOp .add 9 (.const (.string { data := #[36,123] })) (.tmp 29) 9,9,none⟩,⟨some 31,.binOp .add 9 (.tmp 30) (.const (.string { data := #[125] })) 9,9,none⟩,⟨some 32,.buildSlice 27 0 #[],27,none⟩,⟨some 33,.call { callee := .value (.func 40),args := #[.tmp 23,.tmp 31,.tmp 32],argTypes := #[23,9,27] },63,none⟩,⟨some 21,.move (.tmp 33),63,none⟩,⟨some 34,.extract (.tmp 21) 0,9,none⟩,⟨some 35,.extract (.tmp 21) 1,3,none⟩,⟨some 4,.assign (.tmp 34),9,none⟩] [⟨some 5,.assign (.tmp 35),3,none⟩]) (.seq (.ops [oA 36 5 3,⟨some 37,.binOp .neq 3 (.tmp 36) (.const (.int .i64 0)) 3,4,none⟩]) (.cond (.tmp 37) (.seq (.ops [oA 38 5 3,oB 2 38 3]) (.ret)) (.skip))))) (q13c0)
@[simp] theorem ymr : type_of% (zaa q13c1.eq_1) := zaa rfl
def q13l0 : zab := .seq (.seq (.ops [oA 14 3 3,oD 15 29 1 2 0,oC 16 23 15 23,oF 17 16 23 3,oI 18 3 14 17 3 4]) (.cond (.tmp 18) (.skip) (.exit 0))) (q13c1)
@[simp] theorem yms : type_of% (zaa q13l0.eq_1) := zaa rfl
def q13c2 : zab := .ops [oA 44 6 3,oH 45 3 44 1 3 3,oB 6 45 3]
@[simp] theorem ymt : type_of% (zaa q13c2.eq_1) := zaa rfl
def q13c3 : zab := .seq (.block 3 (.seq (.draw [] [⟨some 47,.load 29 (.tmp 1),29,none⟩,⟨some 48,.call { callee := .value (.func 41),args := #[.tmp 47],argTypes := #[29] },23,none⟩,⟨some 49,.fieldAddr 29 (.tmp 1) 7,0,none⟩,⟨some 50,.load 27 (.tmp 49),27,none⟩,⟨some 51,.move (.tmp 6),3,none⟩,⟨some 52,.indexAddr 27 (.tmp 50) (.tmp 51),0,none⟩,⟨some 53,.load 9 (.tmp 52),9,none⟩,⟨some 54,.buildSlice 27 0 #[],27,none⟩,⟨some 55,.call { callee := .value (.func 40),args := #[.tmp 48,.tmp 53,.tmp 54],argTypes := #[23,9,27] },63,none⟩,⟨some 46,.move (.tmp 55),63,none⟩,⟨some 56,.extract (.tmp 46) 0,9,none⟩,⟨some 57,.extract (.tmp 46) 1,3,none⟩,⟨some 7,.assign (.tmp 56),9,none⟩] [⟨some 8,.assign (.tmp 57),3,none⟩]) (.seq (.ops [oA 58 8 3,⟨some 59,.binOp .neq 3 (.tmp 58) (.const (.int .i64 0)) 3,4,none⟩]) (.cond (.tmp 59) (.seq (.ops [oA 60 8 3,oB 2 60 3]) (.ret)) (.skip))))) (q13c2)
@[simp] theorem ymu : type_of% (zaa q13c3.eq_1) := zaa rfl
def q13l1 : zab := .seq (.seq (.ops [oA 39 6 3,oD 40 29 1 7 0,oC 41 27 40 27,oF 42 41 27 3,oI 43 3 39 42 3 4]) (.cond (.tmp 43) (.skip) (.exit 2))) (q13c3)
@[simp] theorem ymv : type_of% (zaa q13l1.eq_1) := zaa rfl
def q13c4 : zab := .seq (.ops [oG 2 0 3]) (.ret)
@[simp] theorem ymw : type_of% (zaa q13c4.eq_1) := zaa rfl
def q13c5 : zab := .seq (.seq (.ops [oG 6 0 3]) (.block 2 (.loop q13l1))) (q13c4)
@[simp] theorem z97 : type_of% (zaa q13c5.eq_1) := zaa rfl
def q13c6 : zab := .seq (.seq (.ops [oG 3 0 3]) (.block 0 (.loop q13l0))) (q13c5)
@[simp] theorem ymx : type_of% (zaa q13c6.eq_1) := zaa rfl
def q13c7 : zab := .seq (.seq (.ops [oC 12 29 1 29,oJ 13 39 12 29 4]) (.cond (.tmp 13) (.seq (.ops [oG 2 2 3]) (.ret)) (.skip))) (q13c6)
@[simp] theorem ymy : type_of% (zaa q13c7.eq_1) := zaa rfl
@[simp] def q13 : QFn := ⟨61,[(.tmp 2,3)],.seq (.ops [oN 1 29 0 0,oG 2 0 3]) (.seq (.seq (.ops [oC 9 29 1 29,oJ 10 38 9 29 4,oS 11 4 10 4]) (.cond (.tmp 11) (.seq (.ops [oG 2 1 3]) (.ret)) (.skip))) (q13c7))⟩
theorem Cv13 : zan Tryz.f13 = some q13 := by kernel_rfl
abbrev Fn18 : FuncId := 18
def q18c0 : zab := .seq (.ops [oA 55 1 3,oB 4 55 3]) (.ret)
@[simp] theorem ymz : type_of% (zaa q18c0.eq_1) := zaa rfl
def q18c1 : zab := .seq (.ops [oD 49 44 2 7 0,oC 50 27 49 27,oA 51 1 3,oV 52 46 50 51 27 3 3,oB 1 52 3]) (.seq (.seq (.ops [oA 53 1 3,oW 54 3 53 0 3 4]) (.cond (.tmp 54) (.seq (.ops [oX 4 3]) (.ret)) (.skip))) (q18c0))
@[simp] theorem ym0 : type_of% (zaa q18c1.eq_1) := zaa rfl
def q18c2 : zab := .seq (.ops [oD 43 44 2 6 0,oC 44 42 43 42,oA 45 1 3,oV 46 45 44 45 42 3 3,oB 1 46 3]) (.seq (.seq (.ops [oA 47 1 3,oW 48 3 47 0 3 4]) (.cond (.tmp 48) (.seq (.ops [oX 4 3]) (.ret)) (.skip))) (q18c1))
@[simp] theorem ym1 : type_of% (zaa q18c2.eq_1) := zaa rfl
def q18c3 : zab := .seq (.ops [oD 37 44 2 5 0,oC 38 41 37 41,oA 39 1 3,oV 40 44 38 39 41 3 3,oB 1 40 3]) (.seq (.seq (.ops [oA 41 1 3,oW 42 3 41 0 3 4]) (.cond (.tmp 42) (.seq (.ops [oX 4 3]) (.ret)) (.skip))) (q18c2))
@[simp] theorem ym2 : type_of% (zaa q18c3.eq_1) := zaa rfl
def q18c4 : zab := .seq (.ops [oD 31 44 2 4 0,oC 32 40 31 40,oA 33 1 3,oV 34 43 32 33 40 3 3,oB 1 34 3]) (.seq (.seq (.ops [oA 35 1 3,oW 36 3 35 0 3 4]) (.cond (.tmp 36) (.seq (.ops [oX 4 3]) (.ret)) (.skip))) (q18c3))
@[simp] theorem ym3 : type_of% (zaa q18c4.eq_1) := zaa rfl
def q18c5 : zab := .seq (.ops [oD 25 44 2 3 0,oC 26 40 25 40,oA 27 1 3,oV 28 43 26 27 40 3 3,oB 1 28 3]) (.seq (.seq (.ops [oA 29 1 3,oW 30 3 29 0 3 4]) (.cond (.tmp 30) (.seq (.ops [oX 4 3]) (.ret)) (.skip))) (q18c4))
@[simp] theorem ym4 : type_of% (zaa q18c5.eq_1) := zaa rfl
def q18c6 : zab := .seq (.ops [oD 19 44 2 2 0,oC 20 39 19 39,oA 21 1 3,oV 22 42 20 21 39 3 3,oB 1 22 3]) (.seq (.seq (.ops [oA 23 1 3,oW 24 3 23 0 3 4]) (.cond (.tmp 24) (.seq (.ops [oX 4 3]) (.ret)) (.skip))) (q18c5))
@[simp] theorem ym5 : type_of% (zaa q18c6.eq_1) := zaa rfl
def q18c7 : zab := .seq (.ops [oA 12 1 3,oD 13 44 2 1 0,oC 14 9 13 9,oF 15 14 9 3,oAI 16 3 12 15 3 3,oB 1 16 3]) (.seq (.seq (.ops [oA 17 1 3,oW 18 3 17 0 3 4]) (.cond (.tmp 18) (.seq (.ops [oX 4 3]) (.ret)) (.skip))) (q18c6))
@[simp] theorem ym6 : type_of% (zaa q18c7.eq_1) := zaa rfl
@[simp] def q18 : QFn := ⟨56,[(.tmp 4,3)],.seq (.ops [oN 2 44 0 0,oG 4 0 3]) (.seq (.ops [oA 5 1 3,oD 6 44 2 0 0,oC 7 9 6 9,oF 8 7 9 3,oAI 9 3 5 8 3 3,oB 1 9 3]) (.seq (.seq (.ops [oA 10 1 3,oW 11 3 10 0 3 4]) (.cond (.tmp 11) (.seq (.ops [oX 4 3]) (.ret)) (.skip))) (q18c7)))⟩
theorem Cv18 : zan Tryz.f18 = some q18 := by kernel_rfl
abbrev Fn19 : FuncId := 19
@[simp] def q19 : QFn := ⟨35,[(.cell 2 29,29)],.seq (.ops [oN 1 44 0 0,oR 2 29 0]) (.seq (.ops [oR 3 29 0]) (.seq (.ops [oD 4 44 1 0 0,oC 5 9 4 9,oD 6 29 3 0 0,oL 9 6 5 0]) (.seq (.ops [oD 7 44 1 1 0,oC 8 9 7 9,oD 9 29 3 1 0,oL 9 9 8 0]) (.seq (.ops [oD 10 44 1 2 0,oC 11 39 10 39,oJ 12 47 11 39 23,oD 13 29 3 2 0,oL 23 13 12 0]) (.seq (.ops [oD 14 44 1 3 0,oC 15 40 14 40,oJ 16 48 15 40 24,oD 17 29 3 3 0,oL 24 17 16 0]) (.seq (.ops [oD 18 44 1 4 0,oC 19 40 18 40,oJ 20 48 19 40 24,oD 21 29 3 4 0,oL 24 21 20 0]) (.seq (.ops [oD 22 44 1 5 0,oC 23 41 22 41,oJ 24 49 23 41 25,oD 25 29 3 5 0,oL 25 25 24 0]) (.seq (.ops [oD 26 44 1 6 0,oC 27 42 26 42,oJ 28 50 27 42 26,oD 29 29 3 6 0,oL 26 29 28 0]) (.seq (.ops [oD 30 44 1 7 0,oC 31 27 30 27,oJ 32 51 31 27 27,oD 33 29 3 7 0,oL 27 33 32 0]) (.seq (.ops [oC 34 29 3 29,oL 29 2 34 0]) (.ret)))))))))))⟩
theorem Cv19 : zan Tryz.f19 = some q19 := by kernel_rfl
abbrev Fn20 : FuncId := 20
def q20c0 : zab := .seq (.ops [oY 4 4]) (.ret)
@[simp] theorem ym7 : type_of% (zaa q20c0.eq_1) := zaa rfl
def q20c1 : zab := .seq (.seq (.ops [oD 45 29 2 7 0,oC 46 27 45 27,oD 47 29 3 7 0,oC 48 27 47 27,oV 49 21 46 48 27 27 4,oS 50 4 49 4]) (.cond (.tmp 50) (.seq (.ops [oE 4 4]) (.ret)) (.skip))) (q20c0)
@[simp] theorem ym8 : type_of% (zaa q20c1.eq_1) := zaa rfl
def q20c2 : zab := .seq (.seq (.ops [oD 39 29 2 6 0,oC 40 26 39 26,oD 41 29 3 6 0,oC 42 26 41 26,oV 43 55 40 42 26 26 4,oS 44 4 43 4]) (.cond (.tmp 44) (.seq (.ops [oE 4 4]) (.ret)) (.skip))) (q20c1)
@[simp] theorem ym9 : type_of% (zaa q20c2.eq_1) := zaa rfl
def q20c3 : zab := .seq (.seq (.ops [oD 33 29 2 5 0,oC 34 25 33 25,oD 35 29 3 5 0,oC 36 25 35 25,oV 37 54 34 36 25 25 4,oS 38 4 37 4]) (.cond (.tmp 38) (.seq (.ops [oE 4 4]) (.ret)) (.skip))) (q20c2)
@[simp] theorem yna : type_of% (zaa q20c3.eq_1) := zaa rfl
def q20c4 : zab := .seq (.seq (.ops [oD 27 29 2 4 0,oC 28 24 27 24,oD 29 29 3 4 0,oC 30 24 29 24,oV 31 53 28 30 24 24 4,oS 32 4 31 4]) (.cond (.tmp 32) (.seq (.ops [oE 4 4]) (.ret)) (.skip))) (q20c3)
@[simp] theorem ynb : type_of% (zaa q20c4.eq_1) := zaa rfl
def q20c5 : zab := .seq (.seq (.ops [oD 21 29 2 3 0,oC 22 24 21 24,oD 23 29 3 3 0,oC 24 24 23 24,oV 25 53 22 24 24 24 4,oS 26 4 25 4]) (.cond (.tmp 26) (.seq (.ops [oE 4 4]) (.ret)) (.skip))) (q20c4)
@[simp] theorem ync : type_of% (zaa q20c5.eq_1) := zaa rfl
def q20c6 : zab := .seq (.seq (.ops [oD 15 29 2 2 0,oC 16 23 15 23,oD 17 29 3 2 0,oC 18 23 17 23,oV 19 52 16 18 23 23 4,oS 20 4 19 4]) (.cond (.tmp 20) (.seq (.ops [oE 4 4]) (.ret)) (.skip))) (q20c5)
@[simp] theorem ynd : type_of% (zaa q20c6.eq_1) := zaa rfl
def q20c7 : zab := .seq (.seq (.ops [oD 10 29 2 1 0,oC 11 9 10 9,oD 12 29 3 1 0,oC 13 9 12 9,oAG 14 9 11 13 9 4]) (.cond (.tmp 14) (.seq (.ops [oE 4 4]) (.ret)) (.skip))) (q20c6)
@[simp] theorem yne : type_of% (zaa q20c7.eq_1) := zaa rfl
@[simp] def q20 : QFn := ⟨51,[(.tmp 4,4)],.seq (.ops [oN 2 29 0 0,oN 3 29 1 0,oE 4 4]) (.seq (.seq (.ops [oD 5 29 2 0 0,oC 6 9 5 9,oD 7 29 3 0 0,oC 8 9 7 9,oAG 9 9 6 8 9 4]) (.cond (.tmp 9) (.seq (.ops [oE 4 4]) (.ret)) (.skip))) (q20c7))⟩
theorem Cv20 : zan Tryz.f20 = some q20 := by kernel_rfl
abbrev Fn21 : FuncId := 21
def q21c0 : zab := .ops [oA 15 5 3,oH 16 3 15 1 3 3,oB 5 16 3]
@[simp] theorem ynf : type_of% (zaa q21c0.eq_1) := zaa rfl
def q21c1 : zab := .seq (.block 1 (.seq (.draw [] [⟨some 17,.move (.tmp 0),27,none⟩,⟨some 18,.move (.tmp 5),3,none⟩,⟨some 19,.indexAddr 27 (.tmp 17) (.tmp 18),0,none⟩,⟨some 20,.load 9 (.tmp 19),9,none⟩,⟨some 21,.move (.tmp 1),27,none⟩,⟨some 22,.move (.tmp 5),3,none⟩,⟨some 23,.indexAddr 27 (.tmp 21) (.tmp 22),0,none⟩,⟨some 24,.load 9 (.tmp 23),9,none⟩] [⟨some 25,.binOp .neq 9 (.tmp 20) (.tmp 24) 9,4,none⟩]) (.cond (.tmp 25) (.seq (.ops [oE 4 4]) (.ret)) (.skip)))) (q21c0)
@[simp] theorem yng : type_of% (zaa q21c1.eq_1) := zaa rfl
def q21l0 : zab := .seq (.seq (.ops [oA 11 5 3,oA 12 0 27,oF 13 12 27 3,oI 14 3 11 13 3 4]) (.cond (.tmp 14) (.skip) (.exit 0))) (q21c1)
@[simp] theorem ynh : type_of% (zaa q21l0.eq_1) := zaa rfl
def q21c2 : zab := .seq (.ops [oY 4 4]) (.ret)
@[simp] theorem yni : type_of% (zaa q21c2.eq_1) := zaa rfl
def q21c3 : zab := .seq (.seq (.ops [oG 5 0 3]) (.block 0 (.loop q21l0))) (q21c2)
@[simp] theorem ynj : type_of% (zaa q21c3.eq_1) := zaa rfl
@[simp] def q21 : QFn := ⟨26,[(.tmp 4,4)],.seq (.ops [oE 4 4]) (.seq (.seq (.ops [oA 6 0 27,oF 7 6 27 3,oA 8 1 27,oF 9 8 27 3,oAG 10 3 7 9 3 4]) (.cond (.tmp 10) (.seq (.ops [oE 4 4]) (.ret)) (.skip))) (q21c3))⟩
theorem Cv21 : zan Tryz.f21 = some q21 := by kernel_rfl
abbrev Fn25 : FuncId := 25
def q25c0 : zab := .seq (.ops [oC 6 29 1 29,oJ 7 61 6 29 9,oB 2 7 9]) (.ret)
@[simp] theorem ynk : type_of% (zaa q25c0.eq_1) := zaa rfl
@[simp] def q25 : QFn := ⟨8,[(.tmp 2,9)],.seq (.ops [oN 1 29 0 0,oO 2 9]) (.seq (.seq (.ops [oC 3 29 1 29,oJ 4 13 3 29 3,⟨some 5,.binOp .neq 3 (.tmp 4) (.const (.int .i64 0)) 3,4,none⟩]) (.cond (.tmp 5) (.seq (.ops [oO 2 9]) (.ret)) (.skip))) (q25c0))⟩
theorem Cv25 : zan Tryz.f25 = some q25 := by kernel_rfl
abbrev Fn26 : FuncId := 26
def q26c0 : zab := .ops [oH 45 3 34 1 3 3,oA 34 45 3]
@[simp] theorem ynl : type_of% (zaa q26c0.eq_1) := zaa rfl
def q26c1 : zab := .seq (.block 1 (.seq (.ops [oM 36 23 32 34 0,oC 37 33 36 33,oR 6 33 0,oL 33 6 37 0]) (.ops [oA 38 4 92,oD 39 33 6 0 0,oC 40 9 39 9,oD 41 33 6 1 0,oC 42 9 41 9,⟨some 43,.buildSlice 27 3 #[(0,.const (.string { data := #[108,101,116] })),(1,.tmp 40),(2,.tmp 42)],27,none⟩,oAA 44 38 43 27 0]))) (q26c0)
@[simp] theorem ynm : type_of% (zaa q26c1.eq_1) := zaa rfl
def q26l0 : zab := .seq (.ops [oI 35 3 34 33 3 0]) (.seq (.cond (.tmp 35) (.skip) (.exit 0)) (q26c1))
@[simp] theorem ynn : type_of% (zaa q26l0.eq_1) := zaa rfl
def q26c2 : zab := .ops [oH 58 3 49 1 3 3,oA 49 58 3]
@[simp] theorem yno : type_of% (zaa q26c2.eq_1) := zaa rfl
def q26c3 : zab := .seq (.block 3 (.seq (.ops [oM 51 24 47 49 0,oC 52 94 51 94,oR 8 94 0,oL 94 8 52 0]) (.ops [oA 53 4 92,oC 54 94 8 94,oJ 55 65 54 94 9,⟨some 56,.buildSlice 27 2 #[(0,.const (.string { data := #[98,117,105,108,100] })),(1,.tmp 55)],27,none⟩,oAA 57 53 56 27 0]))) (q26c2)
@[simp] theorem ynp : type_of% (zaa q26c3.eq_1) := zaa rfl
def q26l1 : zab := .seq (.ops [oI 50 3 49 48 3 0]) (.seq (.cond (.tmp 50) (.skip) (.exit 2)) (q26c3))
@[simp] theorem ynq : type_of% (zaa q26l1.eq_1) := zaa rfl
def q26c4 : zab := .ops [oH 71 3 62 1 3 3,oA 62 71 3]
@[simp] theorem ynr : type_of% (zaa q26c4.eq_1) := zaa rfl
def q26c5 : zab := .seq (.block 5 (.seq (.ops [oM 64 24 60 62 0,oC 65 94 64 94,oR 10 94 0,oL 94 10 65 0]) (.ops [oA 66 4 92,oC 67 94 10 94,oJ 68 65 67 94 9,⟨some 69,.buildSlice 27 2 #[(0,.const (.string { data := #[114,117,110] })),(1,.tmp 68)],27,none⟩,oAA 70 66 69 27 0]))) (q26c4)
@[simp] theorem yns : type_of% (zaa q26c5.eq_1) := zaa rfl
def q26l2 : zab := .seq (.ops [oI 63 3 62 61 3 0]) (.seq (.cond (.tmp 63) (.skip) (.exit 4)) (q26c5))
@[simp] theorem ynt : type_of% (zaa q26l2.eq_1) := zaa rfl
def q26c6 : zab := .ops [oH 86 3 75 1 3 3,oA 75 86 3]
@[simp] theorem ynu : type_of% (zaa q26c6.eq_1) := zaa rfl
def q26c7 : zab := .seq (.block 7 (.seq (.ops [oM 77 25 73 75 0,oC 78 97 77 97,oR 12 97 0,oL 97 12 78 0]) (.ops [oA 79 4 92,oD 80 97 12 0 0,oC 81 9 80 9,oD 82 97 12 1 0,oC 83 9 82 9,⟨some 84,.buildSlice 27 3 #[(0,.const (.string { data := #[115,111,117,114,99,101] })),(1,.tmp 81),(2,.tmp 83)],27,none⟩,oAA 85 79 84 27 0]))) (q26c6)
@[simp] theorem ynv : type_of% (zaa q26c7.eq_1) := zaa rfl
def q26l3 : zab := .seq (.ops [oI 76 3 75 74 3 0]) (.seq (.cond (.tmp 76) (.skip) (.exit 6)) (q26c7))
@[simp] theorem ynw : type_of% (zaa q26l3.eq_1) := zaa rfl
def q26c8 : zab := .ops [oH 101 3 90 1 3 3,oA 90 101 3]
@[simp] theorem ynx : type_of% (zaa q26c8.eq_1) := zaa rfl
def q26c9 : zab := .seq (.block 9 (.seq (.ops [oM 92 26 88 90 0,oC 93 35 92 35,oR 14 35 0,oL 35 14 93 0]) (.ops [oA 94 4 92,oD 95 35 14 0 0,oC 96 9 95 9,oD 97 35 14 1 0,oC 98 9 97 9,⟨some 99,.buildSlice 27 3 #[(0,.const (.string { data := #[112,105,101,99,101] })),(1,.tmp 96),(2,.tmp 98)],27,none⟩,oAA 100 94 99 27 0]))) (q26c8)
@[simp] theorem yny : type_of% (zaa q26c9.eq_1) := zaa rfl
def q26l4 : zab := .seq (.ops [oI 91 3 90 89 3 0]) (.seq (.cond (.tmp 91) (.skip) (.exit 8)) (q26c9))
@[simp] theorem ynz : type_of% (zaa q26l4.eq_1) := zaa rfl
def q26c10 : zab := .ops [oH 113 3 105 1 3 3,oA 105 113 3]
@[simp] theorem ydu : type_of% (zaa q26c10.eq_1) := zaa rfl
def q26c11 : zab := .seq (.block 11 (.seq (.ops [oM 107 27 103 105 0,oC 108 9 107 9,oB 16 108 9]) (.ops [oA 109 4 92,oA 110 16 9,⟨some 111,.buildSlice 27 2 #[(0,.const (.string { data := #[115,116,101,112] })),(1,.tmp 110)],27,none⟩,oAA 112 109 111 27 0]))) (q26c10)
@[simp] theorem ydv : type_of% (zaa q26c11.eq_1) := zaa rfl
def q26l5 : zab := .seq (.ops [oI 106 3 105 104 3 0]) (.seq (.cond (.tmp 106) (.skip) (.exit 10)) (q26c11))
@[simp] theorem yn0 : type_of% (zaa q26l5.eq_1) := zaa rfl
def q26c12 : zab := .seq (.ops [oJ 114 66 3 86 9,oB 2 114 9]) (.ret)
@[simp] theorem zt0 : type_of% (zaa q26c12.eq_1) := zaa rfl
def q26c13 : zab := .seq (.seq (.ops [oD 102 29 1 7 0,oC 103 27 102 27,oF 104 103 27 3,oZ 105 0 3]) (.block 10 (.loop q26l5))) (q26c12)
@[simp] theorem z0a : type_of% (zaa q26c13.eq_1) := zaa rfl
def q26c14 : zab := .seq (.seq (.ops [oD 87 29 1 6 0,oC 88 26 87 26,oF 89 88 26 3,oZ 90 0 3]) (.block 8 (.loop q26l4))) (q26c13)
@[simp] theorem z0b : type_of% (zaa q26c14.eq_1) := zaa rfl
def q26c15 : zab := .seq (.seq (.ops [oD 72 29 1 5 0,oC 73 25 72 25,oF 74 73 25 3,oZ 75 0 3]) (.block 6 (.loop q26l3))) (q26c14)
@[simp] theorem z0c : type_of% (zaa q26c15.eq_1) := zaa rfl
def q26c16 : zab := .seq (.seq (.ops [oD 59 29 1 4 0,oC 60 24 59 24,oF 61 60 24 3,oZ 62 0 3]) (.block 4 (.loop q26l2))) (q26c15)
@[simp] theorem z0d : type_of% (zaa q26c16.eq_1) := zaa rfl
def q26c17 : zab := .seq (.seq (.ops [oD 46 29 1 3 0,oC 47 24 46 24,oF 48 47 24 3,oZ 49 0 3]) (.block 2 (.loop q26l1))) (q26c16)
@[simp] theorem z0e : type_of% (zaa q26c17.eq_1) := zaa rfl
def q26c18 : zab := .seq (.ops [oR 3 86 0]) (.seq (.ops [⟨some 20,.makeFunc (.func 62) #[] #[.tmp 3],92,none⟩,oB 4 20 92]) (.seq (.ops [oA 21 4 92,oD 22 29 1 0 0,oC 23 9 22 9,⟨some 24,.buildSlice 27 2 #[(0,.const (.string { data := #[110,97,109,101] })),(1,.tmp 23)],27,none⟩,oAA 25 21 24 27 0]) (.seq (.ops [oA 26 4 92,oD 27 29 1 1 0,oC 28 9 27 9,⟨some 29,.buildSlice 27 2 #[(0,.const (.string { data := #[118,101,114,115,105,111,110] })),(1,.tmp 28)],27,none⟩,oAA 30 26 29 27 0]) (.seq (.seq (.ops [oD 31 29 1 2 0,oC 32 23 31 23,oF 33 32 23 3,oZ 34 0 3]) (.block 0 (.loop q26l0))) (q26c17)))))
@[simp] theorem z57 : type_of% (zaa q26c18.eq_1) := zaa rfl
@[simp] def q26 : QFn := ⟨115,[(.tmp 2,9)],.seq (.ops [oN 1 29 0 0,oO 2 9]) (.seq (.seq (.ops [oC 17 29 1 29,oJ 18 12 17 29 3,⟨some 19,.binOp .neq 3 (.tmp 18) (.const (.int .i64 0)) 3,4,none⟩]) (.cond (.tmp 19) (.seq (.ops [oO 2 9]) (.ret)) (.skip))) (q26c18))⟩
theorem Cv26 : zan Tryz.f26 = some q26 := by kernel_rfl
abbrev Fn35 : FuncId := 35
def q35c0 : zab := .seq (.ops [oD 36 29 1 2 0,oC 37 23 36 23,⟨some 38,.call { callee := .value (.func 87),args := #[.tmp 37,.func 88],argTypes := #[23,115] },4,none⟩,oA 39 38 4,oAD 40 29 1 3 0 39,oAE 41 24 40 24 39,oAV 42 89 41 90 24 117 4 39,oU 43 39 42 4,oA 44 43 4,oAD 45 29 1 4 0 44,oAE 46 24 45 24 44,oAV 47 89 46 90 24 117 4 44,oU 48 44 47 4,oA 49 48 4,oAD 50 29 1 5 0 49,oAE 51 25 50 25 49,oAV 52 91 51 92 25 119 4 49,oU 53 49 52 4,oA 54 53 4,oAD 55 29 1 6 0 54,oAE 56 26 55 26 54,oAV 57 93 56 94 26 121 4 54,oU 58 54 57 4,oA 59 58 4,oAD 60 29 1 7 0 59,oAE 61 27 60 27 59,oAV 62 95 61 96 27 54 4 59,oU 63 59 62 4,oB 2 63 4]) (.ret)
@[simp] theorem yn1 : type_of% (zaa q35c0.eq_1) := zaa rfl
def q35c1 : zab := .seq (.seq (.ops [oD 19 29 1 2 0,oC 20 23 19 23,oF 21 20 23 3,oD 22 29 1 3 0,oC 23 24 22 24,oF 24 23 24 3,oD 25 29 1 4 0,oC 26 24 25 24,oF 27 26 24 3,oD 28 29 1 5 0,oC 29 25 28 25,oF 30 29 25 3,oD 31 29 1 6 0,oC 32 26 31 26,oF 33 32 26 3,⟨some 34,.call { callee := .builtin .max,args := #[.tmp 21,.tmp 24,.tmp 27,.tmp 30,.tmp 33],argTypes := #[3,3,3,3,3] },3,none⟩,oAP 35 3 34 6 3 4]) (.cond (.tmp 35) (.seq (.ops [oE 2 4]) (.ret)) (.skip))) (q35c0)
@[simp] theorem yn2 : type_of% (zaa q35c1.eq_1) := zaa rfl
@[simp] def q35 : QFn := ⟨64,[(.tmp 2,4)],.seq (.ops [oN 1 29 0 0,oE 2 4]) (.seq (.seq (.ops [oD 3 29 1 0 0,oC 4 9 3 9,oJ 5 85 4 9 4,oS 6 4 5 4,oA 7 6 4,oAL 8 29 1 1 0 7,oAJ 9 9 8 9 7,oAQ 10 86 9 9 4 7,⟨some 11,.unOp .not 4 (.tmp 10),4,some (7,false)⟩,oP 12 7 11 4,oA 13 12 4,oAL 14 29 1 7 0 13,oAJ 15 27 14 27 13,oAR 16 15 27 3 13,⟨some 17,.binOp .gtr 3 (.tmp 16) (.const (.int .i64 10)) 3,4,some (13,false)⟩,oP 18 13 17 4]) (.cond (.tmp 18) (.seq (.ops [oE 2 4]) (.ret)) (.skip))) (q35c1))⟩
theorem Cv35 : zan Tryz.f35 = some q35 := by kernel_rfl
abbrev Fn36 : FuncId := 36
@[simp] def q36 : QFn := ⟨39,[(.tmp 2,4)],.seq (.ops [oN 1 29 0 0,oE 2 4]) (.seq (.ops [⟨some 3,.assign (.func 97),123,none⟩]) (.seq (.ops [⟨some 4,.assign (.func 98),124,none⟩]) (.seq (.ops [⟨some 5,.assign (.func 99),125,none⟩]) (.seq (.ops [oD 6 29 1 2 0,oC 7 23 6 23,oA 8 3 123,⟨some 9,.buildSlice 27 2 #[(0,.const (.string { data := #[110,97,109,101] })),(1,.const (.string { data := #[118,101,114,115,105,111,110] }))],27,none⟩,⟨some 10,.call { callee := .value (.func 100),args := #[.tmp 7,.tmp 8,.tmp 9],argTypes := #[23,123,27] },4,none⟩,oA 11 10 4,oAL 12 29 1 3 0 11,oAJ 13 24 12 24 11,⟨some 14,.call { callee := .value (.func 101),args := #[.tmp 13,.func 102,.const (.slice none 0 0)],argTypes := #[24,95,27] },4,some (11,false)⟩,oP 15 11 14 4,oA 16 15 4,oAL 17 29 1 4 0 16,oAJ 18 24 17 24 16,oAL 19 29 1 0 0 16,oAJ 20 9 19 9 16,⟨some 21,.buildSlice 27 1 #[(0,.tmp 20)],27,some (16,false)⟩,⟨some 22,.call { callee := .value (.func 101),args := #[.tmp 18,.func 102,.tmp 21],argTypes := #[24,95,27] },4,some (16,false)⟩,oP 23 16 22 4,oA 24 23 4,oAL 25 29 1 5 0 24,oAJ 26 25 25 25 24,oK 27 4 124 24,⟨some 28,.call { callee := .value (.func 103),args := #[.tmp 26,.tmp 27,.const (.slice none 0 0)],argTypes := #[25,124,27] },4,some (24,false)⟩,oP 29 24 28 4,oA 30 29 4,oAL 31 29 1 6 0 30,oAJ 32 26 31 26 30,oK 33 5 125 30,oAL 34 29 1 0 0 30,oAJ 35 9 34 9 30,⟨some 36,.buildSlice 27 1 #[(0,.tmp 35)],27,some (30,false)⟩,⟨some 37,.call { callee := .value (.func 104),args := #[.tmp 32,.tmp 33,.tmp 36],argTypes := #[26,125,27] },4,some (30,false)⟩,oP 38 30 37 4,oB 2 38 4]) (.ret)))))⟩
theorem Cv36 : zan Tryz.f36 = some q36 := by kernel_rfl
abbrev Fn37 : FuncId := 37
def q37c0 : zab := .ops [oH 34 3 18 1 3 3,oA 18 34 3]
@[simp] theorem yn3 : type_of% (zaa q37c0.eq_1) := zaa rfl
def q37c1 : zab := .seq (.block 1 (.seq (.ops [oM 20 23 16 18 0,oC 21 33 20 33,oR 6 33 0,oL 33 6 21 0]) (.seq (.ops [oA 23 4 23,oD 24 33 6 0 0,oC 25 9 24 9,⟨some 26,.binOp .add 9 (.const (.string { data := #[36,123] })) (.tmp 25) 9,9,none⟩,⟨some 27,.binOp .add 9 (.tmp 26) (.const (.string { data := #[125] })) 9,9,none⟩,oV 28 106 23 27 23 9 63,oA 22 28 63,oT 29 22 0 9,oT 30 22 1 3,oB 7 29 9,oB 8 30 3]) (.seq (.ops [oA 31 8 3,⟨some 32,.binOp .neq 3 (.tmp 31) (.const (.int .i64 0)) 3,4,none⟩]) (.cond (.tmp 32) (.seq (.ops [oA 33 8 3,oAB 2 27,oB 3 33 3]) (.ret)) (.skip)))))) (q37c0)
@[simp] theorem yn4 : type_of% (zaa q37c1.eq_1) := zaa rfl
def q37l0 : zab := .seq (.ops [oI 19 3 18 17 3 0]) (.seq (.cond (.tmp 19) (.skip) (.exit 0)) (q37c1))
@[simp] theorem yn5 : type_of% (zaa q37l0.eq_1) := zaa rfl
def q37c2 : zab := .ops [oA 51 9 27,oA 52 12 9,oAF 53 27 1 0 52 27,oAC 54 51 53 27 27 27,oB 9 54 27]
@[simp] theorem yn6 : type_of% (zaa q37c2.eq_1) := zaa rfl
def q37c3 : zab := .ops [oH 55 3 38 1 3 3,oA 38 55 3]
@[simp] theorem yn7 : type_of% (zaa q37c3.eq_1) := zaa rfl
def q37c4 : zab := .seq (.block 3 (.seq (.ops [oM 40 27 36 38 0,oC 41 9 40 9,oB 11 41 9]) (.seq (.ops [oA 43 4 23,oA 44 11 9,oV 45 106 43 44 23 9 63,oA 42 45 63,oT 46 42 0 9,oT 47 42 1 3,oB 12 46 9,oB 13 47 3]) (.seq (.seq (.ops [oA 48 13 3,⟨some 49,.binOp .neq 3 (.tmp 48) (.const (.int .i64 0)) 3,4,none⟩]) (.cond (.tmp 49) (.seq (.ops [oA 50 13 3,oAB 2 27,oB 3 50 3]) (.ret)) (.skip))) (q37c2))))) (q37c3)
@[simp] theorem yn8 : type_of% (zaa q37c4.eq_1) := zaa rfl
def q37l1 : zab := .seq (.ops [oI 39 3 38 37 3 0]) (.seq (.cond (.tmp 39) (.skip) (.exit 2)) (q37c4))
@[simp] theorem yn9 : type_of% (zaa q37l1.eq_1) := zaa rfl
def q37c5 : zab := .seq (.ops [oA 56 9 27,oB 2 56 27,oG 3 0 3]) (.ret)
@[simp] theorem yoa : type_of% (zaa q37c5.eq_1) := zaa rfl
def q37c6 : zab := .seq (.ops [oAB 9 27]) (.seq (.seq (.ops [oD 35 29 1 7 0,oC 36 27 35 27,oF 37 36 27 3,oZ 38 0 3]) (.block 2 (.loop q37l1))) (q37c5))
@[simp] theorem z98 : type_of% (zaa q37c6.eq_1) := zaa rfl
@[simp] def q37 : QFn := ⟨57,[(.tmp 2,27),(.tmp 3,3)],.seq (.ops [oN 1 29 0 0,oAB 2 27,oG 3 0 3]) (.seq (.ops [oC 14 29 1 29,oJ 15 105 14 29 23,oB 4 15 23]) (.seq (.seq (.ops [oA 16 4 23,oF 17 16 23 3,oZ 18 0 3]) (.block 0 (.loop q37l0))) (q37c6)))⟩
theorem Cv37 : zan Tryz.f37 = some q37 := by kernel_rfl
abbrev Fn38 : FuncId := 38
def q38c0 : zab := .ops [oA 12 3 3,oH 13 3 12 1 3 3,oB 3 13 3]
@[simp] theorem yob : type_of% (zaa q38c0.eq_1) := zaa rfl
def q38c1 : zab := .seq (.block 1 (.seq (.ops [oD 14 29 1 5 0,oC 15 25 14 25,oA 16 3 3,oM 17 25 15 16 0,oD 18 97 17 0 0,oC 19 9 18 9,oJ 20 107 19 9 4,oS 21 4 20 4,oA 22 21 4,oAL 23 29 1 5 0 22,oAJ 24 25 23 25 22,oK 25 3 3 22,⟨some 26,.indexAddr 25 (.tmp 24) (.tmp 25),0,some (22,false)⟩,oAL 27 97 26 1 0 22,oAJ 28 9 27 9 22,oAQ 29 108 28 9 4 22,⟨some 30,.unOp .not 4 (.tmp 29),4,some (22,false)⟩,oP 31 22 30 4]) (.cond (.tmp 31) (.seq (.ops [oE 2 4]) (.ret)) (.skip)))) (q38c0)
@[simp] theorem yoc : type_of% (zaa q38c1.eq_1) := zaa rfl
def q38l0 : zab := .seq (.seq (.ops [oA 7 3 3,oD 8 29 1 5 0,oC 9 25 8 25,oF 10 9 25 3,oI 11 3 7 10 3 4]) (.cond (.tmp 11) (.skip) (.exit 0))) (q38c1)
@[simp] theorem yod : type_of% (zaa q38l0.eq_1) := zaa rfl
def q38c2 : zab := .ops [oA 37 4 3,oH 38 3 37 1 3 3,oB 4 38 3]
@[simp] theorem yoe : type_of% (zaa q38c2.eq_1) := zaa rfl
def q38c3 : zab := .seq (.block 3 (.seq (.ops [oD 39 29 1 6 0,oC 40 26 39 26,oA 41 4 3,oM 42 26 40 41 0,oD 43 35 42 0 0,oC 44 9 43 9,oJ 45 109 44 9 4,oS 46 4 45 4,oA 47 46 4,oAL 48 29 1 6 0 47,oAJ 49 26 48 26 47,oK 50 4 3 47,⟨some 51,.indexAddr 26 (.tmp 49) (.tmp 50),0,some (47,false)⟩,oAL 52 35 51 1 0 47,oAJ 53 9 52 9 47,oAQ 54 110 53 9 4 47,⟨some 55,.unOp .not 4 (.tmp 54),4,some (47,false)⟩,oP 56 47 55 4]) (.cond (.tmp 56) (.seq (.ops [oE 2 4]) (.ret)) (.skip)))) (q38c2)
@[simp] theorem yof : type_of% (zaa q38c3.eq_1) := zaa rfl
def q38l1 : zab := .seq (.seq (.ops [oA 32 4 3,oD 33 29 1 6 0,oC 34 26 33 26,oF 35 34 26 3,oI 36 3 32 35 3 4]) (.cond (.tmp 36) (.skip) (.exit 2))) (q38c3)
@[simp] theorem yog : type_of% (zaa q38l1.eq_1) := zaa rfl
def q38c4 : zab := .ops [oA 62 5 3,oH 63 3 62 1 3 3,oB 5 63 3]
@[simp] theorem yoh : type_of% (zaa q38c4.eq_1) := zaa rfl
def q38c5 : zab := .seq (.block 5 (.seq (.ops [oD 64 29 1 7 0,oC 65 27 64 27,oA 66 5 3,oM 67 27 65 66 0,oC 68 9 67 9,oJ 69 111 68 9 4,oS 70 4 69 4]) (.cond (.tmp 70) (.seq (.ops [oE 2 4]) (.ret)) (.skip)))) (q38c4)
@[simp] theorem yoi : type_of% (zaa q38c5.eq_1) := zaa rfl
def q38l2 : zab := .seq (.seq (.ops [oA 57 5 3,oD 58 29 1 7 0,oC 59 27 58 27,oF 60 59 27 3,oI 61 3 57 60 3 4]) (.cond (.tmp 61) (.skip) (.exit 4))) (q38c5)
@[simp] theorem yoj : type_of% (zaa q38l2.eq_1) := zaa rfl
def q38c6 : zab := .seq (.ops [oD 71 29 1 2 0,oC 72 23 71 23,oF 73 72 23 3,⟨some 74,.binOp .leq 3 (.tmp 73) (.const (.int .i64 6)) 3,4,none⟩,oA 75 74 4,oAD 76 29 1 5 0 75,oAE 77 25 76 25 75,oAU 78 77 25 3 75,⟨some 79,.binOp .leq 3 (.tmp 78) (.const (.int .i64 6)) 3,4,some (75,true)⟩,oU 80 75 79 4,oA 81 80 4,oAD 82 29 1 6 0 81,oAE 83 26 82 26 81,oAU 84 83 26 3 81,⟨some 85,.binOp .leq 3 (.tmp 84) (.const (.int .i64 6)) 3,4,some (81,true)⟩,oU 86 81 85 4,oA 87 86 4,oAD 88 29 1 7 0 87,oAE 89 27 88 27 87,oAU 90 89 27 3 87,⟨some 91,.binOp .leq 3 (.tmp 90) (.const (.int .i64 10)) 3,4,some (87,true)⟩,oU 92 87 91 4,oB 6 92 4]) (.seq (.ops [oA 93 6 4,oA 94 93 4,oAD 95 29 1 0 0 94,oAE 96 9 95 9 94,oAN 97 109 96 9 4 94,oU 98 94 97 4,oA 99 98 4,oAD 100 29 1 1 0 99,oAE 101 9 100 9 99,oAN 102 112 101 9 4 99,oU 103 99 102 4,oA 104 103 4,oAD 105 29 1 2 0 104,oAE 106 23 105 23 104,oAN 107 113 106 23 4 104,oU 108 104 107 4,oA 109 108 4,oAD 110 29 1 3 0 109,oAE 111 24 110 24 109,oAN 112 114 111 24 4 109,oU 113 109 112 4,oA 114 113 4,oAD 115 29 1 4 0 114,oAE 116 24 115 24 114,oAN 117 114 116 24 4 114,oU 118 114 117 4,oB 2 118 4]) (.ret))
@[simp] theorem z4z : type_of% (zaa q38c6.eq_1) := zaa rfl
def q38c7 : zab := .seq (.seq (.ops [oG 5 0 3]) (.block 4 (.loop q38l2))) (q38c6)
@[simp] theorem z40 : type_of% (zaa q38c7.eq_1) := zaa rfl
def q38c8 : zab := .seq (.seq (.ops [oG 4 0 3]) (.block 2 (.loop q38l1))) (q38c7)
@[simp] theorem z41 : type_of% (zaa q38c8.eq_1) := zaa rfl
@[simp] def q38 : QFn := ⟨119,[(.tmp 2,4)],.seq (.ops [oN 1 29 0 0,oE 2 4]) (.seq (.seq (.ops [oG 3 0 3]) (.block 0 (.loop q38l0))) (q38c8))⟩
theorem Cv38 : zan Tryz.f38 = some q38 := by kernel_rfl
abbrev Fn39 : FuncId := 39
def q39c0 : zab := .ops [oA 19 4 3,oH 20 3 19 1 3 3,oB 4 20 3]
@[simp] theorem yok : type_of% (zaa q39c0.eq_1) := zaa rfl
def q39c1 : zab := .seq (.block 1 (.ops [oA 21 3 27,oD 22 29 1 2 0,oC 23 23 22 23,oA 24 4 3,oM 25 23 23 24 0,oD 26 33 25 0 0,oC 27 9 26 9,oAF 28 27 1 0 27 27,oAC 29 21 28 27 27 27,oB 3 29 27])) (q39c0)
@[simp] theorem yol : type_of% (zaa q39c1.eq_1) := zaa rfl
def q39l0 : zab := .seq (.seq (.ops [oA 14 4 3,oD 15 29 1 2 0,oC 16 23 15 23,oF 17 16 23 3,oI 18 3 14 17 3 4]) (.cond (.tmp 18) (.skip) (.exit 0))) (q39c1)
@[simp] theorem yom : type_of% (zaa q39l0.eq_1) := zaa rfl
def q39c2 : zab := .ops [oA 36 6 3,oH 37 3 36 1 3 3,oB 6 37 3]
@[simp] theorem yon : type_of% (zaa q39c2.eq_1) := zaa rfl
def q39c3 : zab := .seq (.block 3 (.ops [oA 38 5 27,oD 39 29 1 3 0,oC 40 24 39 24,oA 41 6 3,oM 42 24 40 41 0,oD 43 94 42 0 0,oC 44 9 43 9,oAF 45 27 1 0 44 27,oAC 46 38 45 27 27 27,oB 5 46 27])) (q39c2)
@[simp] theorem yoo : type_of% (zaa q39c3.eq_1) := zaa rfl
def q39l1 : zab := .seq (.seq (.ops [oA 31 6 3,oD 32 29 1 3 0,oC 33 24 32 24,oF 34 33 24 3,oI 35 3 31 34 3 4]) (.cond (.tmp 35) (.skip) (.exit 2))) (q39c3)
@[simp] theorem yop : type_of% (zaa q39l1.eq_1) := zaa rfl
def q39c4 : zab := .ops [oA 55 8 3,oH 56 3 55 1 3 3,oB 8 56 3]
@[simp] theorem yoq : type_of% (zaa q39c4.eq_1) := zaa rfl
def q39c5 : zab := .seq (.block 5 (.ops [oA 57 7 27,oD 58 29 1 4 0,oC 59 24 58 24,oA 60 8 3,oM 61 24 59 60 0,oD 62 94 61 0 0,oC 63 9 62 9,oAF 64 27 1 0 63 27,oAC 65 57 64 27 27 27,oB 7 65 27])) (q39c4)
@[simp] theorem yor : type_of% (zaa q39c5.eq_1) := zaa rfl
def q39l2 : zab := .seq (.seq (.ops [oA 50 8 3,oD 51 29 1 4 0,oC 52 24 51 24,oF 53 52 24 3,oI 54 3 50 53 3 4]) (.cond (.tmp 54) (.skip) (.exit 4))) (q39c5)
@[simp] theorem yos : type_of% (zaa q39l2.eq_1) := zaa rfl
def q39c6 : zab := .ops [oA 72 10 3,oH 73 3 72 1 3 3,oB 10 73 3]
@[simp] theorem yot : type_of% (zaa q39c6.eq_1) := zaa rfl
def q39c7 : zab := .seq (.block 7 (.ops [oA 74 9 27,oD 75 29 1 5 0,oC 76 25 75 25,oA 77 10 3,oM 78 25 76 77 0,oD 79 97 78 0 0,oC 80 9 79 9,oAF 81 27 1 0 80 27,oAC 82 74 81 27 27 27,oB 9 82 27])) (q39c6)
@[simp] theorem you : type_of% (zaa q39c7.eq_1) := zaa rfl
def q39l3 : zab := .seq (.seq (.ops [oA 67 10 3,oD 68 29 1 5 0,oC 69 25 68 25,oF 70 69 25 3,oI 71 3 67 70 3 4]) (.cond (.tmp 71) (.skip) (.exit 6))) (q39c7)
@[simp] theorem yov : type_of% (zaa q39l3.eq_1) := zaa rfl
def q39c8 : zab := .ops [oA 91 12 3,oH 92 3 91 1 3 3,oB 12 92 3]
@[simp] theorem yow : type_of% (zaa q39c8.eq_1) := zaa rfl
def q39c9 : zab := .seq (.block 9 (.ops [oA 93 11 27,oD 94 29 1 6 0,oC 95 26 94 26,oA 96 12 3,oM 97 26 95 96 0,oD 98 35 97 0 0,oC 99 9 98 9,oAF 100 27 1 0 99 27,oAC 101 93 100 27 27 27,oB 11 101 27])) (q39c8)
@[simp] theorem yox : type_of% (zaa q39c9.eq_1) := zaa rfl
def q39l4 : zab := .seq (.seq (.ops [oA 86 12 3,oD 87 29 1 6 0,oC 88 26 87 26,oF 89 88 26 3,oI 90 3 86 89 3 4]) (.cond (.tmp 90) (.skip) (.exit 8))) (q39c9)
@[simp] theorem yoy : type_of% (zaa q39l4.eq_1) := zaa rfl
def q39c10 : zab := .seq (.ops [oA 102 3 27,oJ 103 115 102 27 4,oA 104 103 4,oK 105 5 27 104,oAQ 106 115 105 27 4 104,oP 107 104 106 4,oA 108 107 4,oK 109 7 27 108,oAQ 110 115 109 27 4 108,oP 111 108 110 4,oA 112 111 4,oK 113 9 27 112,oAQ 114 115 113 27 4 112,oP 115 112 114 4,oA 116 115 4,oK 117 11 27 116,oAQ 118 115 117 27 4 116,oP 119 116 118 4,oB 2 119 4]) (.ret)
@[simp] theorem z58 : type_of% (zaa q39c10.eq_1) := zaa rfl
def q39c11 : zab := .seq (.ops [oD 83 29 1 0 0,oC 84 9 83 9,oAF 85 27 1 0 84 27,oB 11 85 27]) (.seq (.seq (.ops [oG 12 0 3]) (.block 8 (.loop q39l4))) (q39c10))
@[simp] theorem z6a : type_of% (zaa q39c11.eq_1) := zaa rfl
def q39c12 : zab := .seq (.ops [⟨some 66,.buildSlice 27 0 #[],27,none⟩,oB 9 66 27]) (.seq (.seq (.ops [oG 10 0 3]) (.block 6 (.loop q39l3))) (q39c11))
@[simp] theorem z6b : type_of% (zaa q39c12.eq_1) := zaa rfl
def q39c13 : zab := .seq (.ops [oD 47 29 1 0 0,oC 48 9 47 9,oAF 49 27 1 0 48 27,oB 7 49 27]) (.seq (.seq (.ops [oG 8 0 3]) (.block 4 (.loop q39l2))) (q39c12))
@[simp] theorem z6c : type_of% (zaa q39c13.eq_1) := zaa rfl
def q39c14 : zab := .seq (.ops [⟨some 30,.buildSlice 27 0 #[],27,none⟩,oB 5 30 27]) (.seq (.seq (.ops [oG 6 0 3]) (.block 2 (.loop q39l1))) (q39c13))
@[simp] theorem z6d : type_of% (zaa q39c14.eq_1) := zaa rfl
@[simp] def q39 : QFn := ⟨120,[(.tmp 2,4)],.seq (.ops [oN 1 29 0 0,oE 2 4]) (.seq (.ops [⟨some 13,.buildSlice 27 2 #[(0,.const (.string { data := #[110,97,109,101] })),(1,.const (.string { data := #[118,101,114,115,105,111,110] }))],27,none⟩,oB 3 13 27]) (.seq (.seq (.ops [oG 4 0 3]) (.block 0 (.loop q39l0))) (q39c14)))⟩
theorem Cv39 : zan Tryz.f39 = some q39 := by kernel_rfl
abbrev Fn40 : FuncId := 40
def q40c0 : zab := .ops [oA 51 13 3,oH 52 3 51 1 3 3,oB 13 52 3]
@[simp] theorem yoz : type_of% (zaa q40c0.eq_1) := zaa rfl
def q40c1 : zab := .seq (.block 4 (.seq (.ops [oA 53 2 27,oA 54 13 3,oM 55 27 53 54 0,oC 56 9 55 9,oA 57 9 9,⟨some 58,.binOp .eql 9 (.tmp 56) (.tmp 57) 9,4,none⟩]) (.cond (.tmp 58) (.seq (.ops [oO 6 9,oG 7 4 3]) (.ret)) (.skip)))) (q40c0)
@[simp] theorem yo0 : type_of% (zaa q40c1.eq_1) := zaa rfl
def q40l0 : zab := .seq (.seq (.ops [oA 47 13 3,oA 48 2 27,oF 49 48 27 3,oI 50 3 47 49 3 4]) (.cond (.tmp 50) (.skip) (.exit 3))) (q40c1)
@[simp] theorem yo1 : type_of% (zaa q40l0.eq_1) := zaa rfl
def q40c2 : zab := .seq (.ops [oA 78 8 9,oA 79 14 9,oAK 80 9 78 79 9 9,oB 8 80 9]) (.seq (.ops [oA 81 10 9,oB 1 81 9]) (.seq (.ops [oA 82 8 9,oF 83 82 9 3,oAP 84 3 83 80 3 4]) (.cond (.tmp 84) (.seq (.ops [oO 6 9,oG 7 5 3]) (.ret)) (.skip))))
@[simp] theorem yo2 : type_of% (zaa q40c2.eq_1) := zaa rfl
def q40c3 : zab := .seq (.draw [0] [⟨some 60,.move (.tmp 0),23,none⟩,⟨some 61,.move (.tmp 0),23,none⟩,⟨some 62,.move (.tmp 12),3,none⟩,⟨some 63,.indexAddr 23 (.tmp 61) (.tmp 62),0,none⟩,⟨some 64,.fieldAddr 33 (.tmp 63) 1,0,none⟩,⟨some 65,.load 9 (.tmp 64),9,none⟩,⟨some 66,.buildSlice 27 0 #[],27,none⟩,⟨some 67,.move (.tmp 2),27,none⟩,⟨some 68,.call { callee := .builtin .append,args := #[.tmp 66,.tmp 67],argTypes := #[27,27] },27,none⟩,⟨some 69,.move (.tmp 9),9,none⟩,⟨some 70,.buildSlice 27 1 #[(0,.tmp 69)],27,none⟩,⟨some 71,.call { callee := .builtin .append,args := #[.tmp 68,.tmp 70],argTypes := #[27,27] },27,none⟩,⟨some 72,.call { callee := .value (.func 40),args := #[.tmp 60,.tmp 65,.tmp 71],argTypes := #[23,9,27] },63,none⟩,⟨some 59,.move (.tmp 72),63,none⟩,⟨some 73,.extract (.tmp 59) 0,9,none⟩,⟨some 74,.extract (.tmp 59) 1,3,none⟩,⟨some 14,.assign (.tmp 73),9,none⟩] [⟨some 15,.assign (.tmp 74),3,none⟩]) (.seq (.seq (.ops [oA 75 15 3,⟨some 76,.binOp .neq 3 (.tmp 75) (.const (.int .i64 0)) 3,4,none⟩]) (.cond (.tmp 76) (.seq (.ops [oA 77 15 3,oO 6 9,oB 7 77 3]) (.ret)) (.skip))) (q40c2))
@[simp] theorem yo3 : type_of% (zaa q40c3.eq_1) := zaa rfl
def q40c4 : zab := .seq (.seq (.ops [oG 13 0 3]) (.block 3 (.loop q40l0))) (q40c3)
@[simp] theorem yo4 : type_of% (zaa q40c4.eq_1) := zaa rfl
def q40c5 : zab := .seq (.ops [oA 33 1 9,oJ 34 116 33 9 134,oA 32 34 134,oT 35 32 0 9,oT 36 32 1 9,oT 37 32 2 4,oB 9 35 9,oB 10 36 9,oB 11 37 4]) (.seq (.ops [oA 38 0 23,oA 39 9 9,oV 40 117 38 39 23 9 3,oB 12 40 3]) (.seq (.block 2 (.seq (.ops [oA 42 11 4,oS 43 4 42 4,oB 41 43 4]) (.cond (.tmp 41) (.seq (.ops [oO 6 9,oG 7 1 3]) (.ret)) (.seq (.ops [oA 45 12 3,oW 46 3 45 0 3 4,oB 44 46 4]) (.cond (.tmp 44) (.seq (.ops [oO 6 9,oG 7 3 3]) (.ret)) (.skip)))))) (q40c4)))
@[simp] theorem yo5 : type_of% (zaa q40c5.eq_1) := zaa rfl
def q40c6 : zab := .block 1 (.seq (.seq (.ops [oA 18 1 9,oF 19 18 9 3,oW 20 3 19 2 3 4,oA 21 20 4,oK 22 1 9 21,⟨some 23,.slice 9 (.tmp 22) none (some (.const (.int .i64 2))) none,9,some (21,false)⟩,⟨some 24,.binOp .neq 9 (.tmp 23) (.const (.string { data := #[36,123] })) 9,4,some (21,false)⟩,oP 25 21 24 4]) (.cond (.tmp 25) (.seq (.ops [oA 26 8 9,oA 27 1 9,⟨some 28,.slice 9 (.tmp 27) none (some (.const (.int .i64 1))) none,9,none⟩,oAK 29 9 26 28 9 9,oB 8 29 9]) (.seq (.ops [oA 30 1 9,⟨some 31,.slice 9 (.tmp 30) (some (.const (.int .i64 1))) none none,9,none⟩,oB 1 31 9]) (.exit 1))) (.skip))) (q40c5))
@[simp] theorem yo6 : type_of% (zaa q40c6.eq_1) := zaa rfl
def q40l1 : zab := .seq (.seq (.ops [oA 16 1 9,⟨some 17,.binOp .neq 9 (.tmp 16) (.const (.string { data := #[] })) 9,4,none⟩]) (.cond (.tmp 17) (.skip) (.exit 0))) (q40c6)
@[simp] theorem yo7 : type_of% (zaa q40l1.eq_1) := zaa rfl
def q40c7 : zab := .seq (.ops [oA 88 8 9,oB 6 88 9,oG 7 0 3]) (.ret)
@[simp] theorem yo8 : type_of% (zaa q40c7.eq_1) := zaa rfl
def q40c8 : zab := .seq (.seq (.ops [oA 85 8 9,oF 86 85 9 3,oAP 87 3 86 80 3 4]) (.cond (.tmp 87) (.seq (.ops [oO 6 9,oG 7 5 3]) (.ret)) (.skip))) (q40c7)
@[simp] theorem yo9 : type_of% (zaa q40c8.eq_1) := zaa rfl
@[simp] def q40 : QFn := ⟨89,[(.tmp 6,9),(.tmp 7,3)],.seq (.ops [oO 6 9,oG 7 0 3]) (.seq (.ops [oO 8 9]) (.seq (.block 0 (.loop q40l1)) (q40c8)))⟩
theorem Cv40 : zan Tryz.f40 = some q40 := by kernel_rfl
abbrev Fn41 : FuncId := 41
@[simp] def q41 : QFn := ⟨13,[(.tmp 2,23)],.seq (.ops [oN 1 29 0 0,oAB 2 23]) (.seq (.ops [oD 3 29 1 0 0,oC 4 9 3 9,⟨some 5,.build 33 #[(0,.const (.string { data := #[110,97,109,101] })),(1,.tmp 4)],33,none⟩,oD 6 29 1 1 0,oC 7 9 6 9,⟨some 8,.build 33 #[(0,.const (.string { data := #[118,101,114,115,105,111,110] })),(1,.tmp 7)],33,none⟩,⟨some 9,.buildSlice 23 2 #[(0,.tmp 5),(1,.tmp 8)],23,none⟩,oD 10 29 1 2 0,oC 11 23 10 23,oAC 12 9 11 23 23 23,oB 2 12 23]) (.ret))⟩
theorem Cv41 : zan Tryz.f41 = some q41 := by kernel_rfl
abbrev Fn42 : FuncId := 42
def q42c0 : zab := .ops [oA 16 5 3,oH 17 3 16 1 3 3,oB 5 17 3]
@[simp] theorem ypa : type_of% (zaa q42c0.eq_1) := zaa rfl
def q42c1 : zab := .seq (.block 1 (.seq (.ops [oA 18 0 39,oA 19 5 3,oM 20 39 18 19 0,oC 21 138 20 138,oA 22 1 3,oV 23 118 21 22 138 3 3,oB 1 23 3]) (.seq (.ops [oA 24 1 3,oW 25 3 24 0 3 4]) (.cond (.tmp 25) (.seq (.ops [oX 4 3]) (.ret)) (.skip))))) (q42c0)
@[simp] theorem ypb : type_of% (zaa q42c1.eq_1) := zaa rfl
def q42l0 : zab := .seq (.seq (.ops [oA 12 5 3,oA 13 0 39,oF 14 13 39 3,oI 15 3 12 14 3 4]) (.cond (.tmp 15) (.skip) (.exit 0))) (q42c1)
@[simp] theorem ypc : type_of% (zaa q42l0.eq_1) := zaa rfl
def q42c2 : zab := .seq (.ops [oA 26 1 3,oB 4 26 3]) (.ret)
@[simp] theorem ypd : type_of% (zaa q42c2.eq_1) := zaa rfl
def q42c3 : zab := .seq (.seq (.ops [oG 5 0 3]) (.block 0 (.loop q42l0))) (q42c2)
@[simp] theorem ype : type_of% (zaa q42c3.eq_1) := zaa rfl
@[simp] def q42 : QFn := ⟨27,[(.tmp 4,3)],.seq (.ops [oG 4 0 3]) (.seq (.ops [oA 6 1 3,oA 7 0 39,oF 8 7 39 3,oAI 9 3 6 8 3 3,oB 1 9 3]) (.seq (.seq (.ops [oA 10 1 3,oW 11 3 10 0 3 4]) (.cond (.tmp 11) (.seq (.ops [oX 4 3]) (.ret)) (.skip))) (q42c3)))⟩
theorem Cv42 : zan Tryz.f42 = some q42 := by kernel_rfl
abbrev Fn43 : FuncId := 43
def q43c0 : zab := .ops [oA 16 5 3,oH 17 3 16 1 3 3,oB 5 17 3]
@[simp] theorem ypf : type_of% (zaa q43c0.eq_1) := zaa rfl
def q43c1 : zab := .seq (.block 1 (.seq (.ops [oA 18 0 40,oA 19 5 3,oM 20 40 18 19 0,oC 21 140 20 140,oA 22 1 3,oV 23 119 21 22 140 3 3,oB 1 23 3]) (.seq (.ops [oA 24 1 3,oW 25 3 24 0 3 4]) (.cond (.tmp 25) (.seq (.ops [oX 4 3]) (.ret)) (.skip))))) (q43c0)
@[simp] theorem ypg : type_of% (zaa q43c1.eq_1) := zaa rfl
def q43l0 : zab := .seq (.seq (.ops [oA 12 5 3,oA 13 0 40,oF 14 13 40 3,oI 15 3 12 14 3 4]) (.cond (.tmp 15) (.skip) (.exit 0))) (q43c1)
@[simp] theorem yph : type_of% (zaa q43l0.eq_1) := zaa rfl
def q43c2 : zab := .seq (.ops [oA 26 1 3,oB 4 26 3]) (.ret)
@[simp] theorem ypi : type_of% (zaa q43c2.eq_1) := zaa rfl
def q43c3 : zab := .seq (.seq (.ops [oG 5 0 3]) (.block 0 (.loop q43l0))) (q43c2)
@[simp] theorem ypj : type_of% (zaa q43c3.eq_1) := zaa rfl
@[simp] def q43 : QFn := ⟨27,[(.tmp 4,3)],.seq (.ops [oG 4 0 3]) (.seq (.ops [oA 6 1 3,oA 7 0 40,oF 8 7 40 3,oAI 9 3 6 8 3 3,oB 1 9 3]) (.seq (.seq (.ops [oA 10 1 3,oW 11 3 10 0 3 4]) (.cond (.tmp 11) (.seq (.ops [oX 4 3]) (.ret)) (.skip))) (q43c3)))⟩
theorem Cv43 : zan Tryz.f43 = some q43 := by kernel_rfl
abbrev Fn44 : FuncId := 44
def q44c0 : zab := .ops [oA 16 5 3,oH 17 3 16 1 3 3,oB 5 17 3]
@[simp] theorem ypk : type_of% (zaa q44c0.eq_1) := zaa rfl
def q44c1 : zab := .seq (.block 1 (.seq (.ops [oA 18 0 41,oA 19 5 3,oM 20 41 18 19 0,oC 21 142 20 142,oA 22 1 3,oV 23 120 21 22 142 3 3,oB 1 23 3]) (.seq (.ops [oA 24 1 3,oW 25 3 24 0 3 4]) (.cond (.tmp 25) (.seq (.ops [oX 4 3]) (.ret)) (.skip))))) (q44c0)
@[simp] theorem ypl : type_of% (zaa q44c1.eq_1) := zaa rfl
def q44l0 : zab := .seq (.seq (.ops [oA 12 5 3,oA 13 0 41,oF 14 13 41 3,oI 15 3 12 14 3 4]) (.cond (.tmp 15) (.skip) (.exit 0))) (q44c1)
@[simp] theorem ypm : type_of% (zaa q44l0.eq_1) := zaa rfl
def q44c2 : zab := .seq (.ops [oA 26 1 3,oB 4 26 3]) (.ret)
@[simp] theorem ypn : type_of% (zaa q44c2.eq_1) := zaa rfl
def q44c3 : zab := .seq (.seq (.ops [oG 5 0 3]) (.block 0 (.loop q44l0))) (q44c2)
@[simp] theorem ypo : type_of% (zaa q44c3.eq_1) := zaa rfl
@[simp] def q44 : QFn := ⟨27,[(.tmp 4,3)],.seq (.ops [oG 4 0 3]) (.seq (.ops [oA 6 1 3,oA 7 0 41,oF 8 7 41 3,oAI 9 3 6 8 3 3,oB 1 9 3]) (.seq (.seq (.ops [oA 10 1 3,oW 11 3 10 0 3 4]) (.cond (.tmp 11) (.seq (.ops [oX 4 3]) (.ret)) (.skip))) (q44c3)))⟩
theorem Cv44 : zan Tryz.f44 = some q44 := by kernel_rfl
abbrev Fn45 : FuncId := 45
def q45c0 : zab := .ops [oA 16 5 3,oH 17 3 16 1 3 3,oB 5 17 3]
@[simp] theorem ypp : type_of% (zaa q45c0.eq_1) := zaa rfl
def q45c1 : zab := .seq (.block 1 (.seq (.ops [oA 18 0 42,oA 19 5 3,oM 20 42 18 19 0,oC 21 144 20 144,oA 22 1 3,oV 23 121 21 22 144 3 3,oB 1 23 3]) (.seq (.ops [oA 24 1 3,oW 25 3 24 0 3 4]) (.cond (.tmp 25) (.seq (.ops [oX 4 3]) (.ret)) (.skip))))) (q45c0)
@[simp] theorem ypq : type_of% (zaa q45c1.eq_1) := zaa rfl
def q45l0 : zab := .seq (.seq (.ops [oA 12 5 3,oA 13 0 42,oF 14 13 42 3,oI 15 3 12 14 3 4]) (.cond (.tmp 15) (.skip) (.exit 0))) (q45c1)
@[simp] theorem ypr : type_of% (zaa q45l0.eq_1) := zaa rfl
def q45c2 : zab := .seq (.ops [oA 26 1 3,oB 4 26 3]) (.ret)
@[simp] theorem yps : type_of% (zaa q45c2.eq_1) := zaa rfl
def q45c3 : zab := .seq (.seq (.ops [oG 5 0 3]) (.block 0 (.loop q45l0))) (q45c2)
@[simp] theorem ypt : type_of% (zaa q45c3.eq_1) := zaa rfl
@[simp] def q45 : QFn := ⟨27,[(.tmp 4,3)],.seq (.ops [oG 4 0 3]) (.seq (.ops [oA 6 1 3,oA 7 0 42,oF 8 7 42 3,oAI 9 3 6 8 3 3,oB 1 9 3]) (.seq (.seq (.ops [oA 10 1 3,oW 11 3 10 0 3 4]) (.cond (.tmp 11) (.seq (.ops [oX 4 3]) (.ret)) (.skip))) (q45c3)))⟩
theorem Cv45 : zan Tryz.f45 = some q45 := by kernel_rfl
abbrev Fn46 : FuncId := 46
def q46c0 : zab := .ops [oA 16 5 3,oH 17 3 16 1 3 3,oB 5 17 3]
@[simp] theorem ypu : type_of% (zaa q46c0.eq_1) := zaa rfl
def q46c1 : zab := .seq (.block 1 (.seq (.ops [oA 18 1 3,oA 19 0 27,oA 20 5 3,oM 21 27 19 20 0,oC 22 9 21 9,oF 23 22 9 3,oAI 24 3 18 23 3 3,oB 1 24 3]) (.seq (.ops [oA 25 1 3,oW 26 3 25 0 3 4]) (.cond (.tmp 26) (.seq (.ops [oX 4 3]) (.ret)) (.skip))))) (q46c0)
@[simp] theorem ypv : type_of% (zaa q46c1.eq_1) := zaa rfl
def q46l0 : zab := .seq (.seq (.ops [oA 12 5 3,oA 13 0 27,oF 14 13 27 3,oI 15 3 12 14 3 4]) (.cond (.tmp 15) (.skip) (.exit 0))) (q46c1)
@[simp] theorem ypw : type_of% (zaa q46l0.eq_1) := zaa rfl
def q46c2 : zab := .seq (.ops [oA 27 1 3,oB 4 27 3]) (.ret)
@[simp] theorem ypx : type_of% (zaa q46c2.eq_1) := zaa rfl
def q46c3 : zab := .seq (.seq (.ops [oG 5 0 3]) (.block 0 (.loop q46l0))) (q46c2)
@[simp] theorem ypy : type_of% (zaa q46c3.eq_1) := zaa rfl
@[simp] def q46 : QFn := ⟨28,[(.tmp 4,3)],.seq (.ops [oG 4 0 3]) (.seq (.ops [oA 6 1 3,oA 7 0 27,oF 8 7 27 3,oAI 9 3 6 8 3 3,oB 1 9 3]) (.seq (.seq (.ops [oA 10 1 3,oW 11 3 10 0 3 4]) (.cond (.tmp 11) (.seq (.ops [oX 4 3]) (.ret)) (.skip))) (q46c3)))⟩
theorem Cv46 : zan Tryz.f46 = some q46 := by kernel_rfl
abbrev Fn47 : FuncId := 47
def q47c0 : zab := .ops [oA 12 4 3,oH 13 3 12 1 3 3,oB 4 13 3]
@[simp] theorem ypz : type_of% (zaa q47c0.eq_1) := zaa rfl
def q47c1 : zab := .seq (.block 1 (.ops [oA 14 3 23,oA 15 4 3,oA 16 0 39,oA 17 4 3,oM 18 39 16 17 0,oC 19 138 18 138,oJ 20 122 19 138 33,oM 21 23 14 15 0,oL 33 21 20 0])) (q47c0)
@[simp] theorem yp0 : type_of% (zaa q47c1.eq_1) := zaa rfl
def q47l0 : zab := .seq (.seq (.ops [oA 8 4 3,oA 9 0 39,oF 10 9 39 3,oI 11 3 8 10 3 4]) (.cond (.tmp 11) (.skip) (.exit 0))) (q47c1)
@[simp] theorem yp1 : type_of% (zaa q47l0.eq_1) := zaa rfl
def q47c2 : zab := .seq (.ops [oA 22 3 23,oB 2 22 23]) (.ret)
@[simp] theorem yp2 : type_of% (zaa q47c2.eq_1) := zaa rfl
@[simp] def q47 : QFn := ⟨23,[(.tmp 2,23)],.seq (.ops [oAB 2 23]) (.seq (.ops [oA 5 0 39,oF 6 5 39 3,⟨some 7,.makeSlice 23 (.tmp 6) (.tmp 6),23,none⟩,oB 3 7 23]) (.seq (.seq (.ops [oG 4 0 3]) (.block 0 (.loop q47l0))) (q47c2)))⟩
theorem Cv47 : zan Tryz.f47 = some q47 := by kernel_rfl
abbrev Fn48 : FuncId := 48
def q48c0 : zab := .ops [oA 12 4 3,oH 13 3 12 1 3 3,oB 4 13 3]
@[simp] theorem yp3 : type_of% (zaa q48c0.eq_1) := zaa rfl
def q48c1 : zab := .seq (.block 1 (.ops [oA 14 3 24,oA 15 4 3,oA 16 0 40,oA 17 4 3,oM 18 40 16 17 0,oC 19 140 18 140,oJ 20 123 19 140 94,oM 21 24 14 15 0,oL 94 21 20 0])) (q48c0)
@[simp] theorem yp4 : type_of% (zaa q48c1.eq_1) := zaa rfl
def q48l0 : zab := .seq (.seq (.ops [oA 8 4 3,oA 9 0 40,oF 10 9 40 3,oI 11 3 8 10 3 4]) (.cond (.tmp 11) (.skip) (.exit 0))) (q48c1)
@[simp] theorem yp5 : type_of% (zaa q48l0.eq_1) := zaa rfl
def q48c2 : zab := .seq (.ops [oA 22 3 24,oB 2 22 24]) (.ret)
@[simp] theorem yp6 : type_of% (zaa q48c2.eq_1) := zaa rfl
@[simp] def q48 : QFn := ⟨23,[(.tmp 2,24)],.seq (.ops [oAB 2 24]) (.seq (.ops [oA 5 0 40,oF 6 5 40 3,⟨some 7,.makeSlice 24 (.tmp 6) (.tmp 6),24,none⟩,oB 3 7 24]) (.seq (.seq (.ops [oG 4 0 3]) (.block 0 (.loop q48l0))) (q48c2)))⟩
theorem Cv48 : zan Tryz.f48 = some q48 := by kernel_rfl
abbrev Fn49 : FuncId := 49
def q49c0 : zab := .ops [oA 12 4 3,oH 13 3 12 1 3 3,oB 4 13 3]
@[simp] theorem yp7 : type_of% (zaa q49c0.eq_1) := zaa rfl
def q49c1 : zab := .seq (.block 1 (.ops [oA 14 3 25,oA 15 4 3,oA 16 0 41,oA 17 4 3,oM 18 41 16 17 0,oC 19 142 18 142,oJ 20 124 19 142 97,oM 21 25 14 15 0,oL 97 21 20 0])) (q49c0)
@[simp] theorem yp8 : type_of% (zaa q49c1.eq_1) := zaa rfl
def q49l0 : zab := .seq (.seq (.ops [oA 8 4 3,oA 9 0 41,oF 10 9 41 3,oI 11 3 8 10 3 4]) (.cond (.tmp 11) (.skip) (.exit 0))) (q49c1)
@[simp] theorem yp9 : type_of% (zaa q49l0.eq_1) := zaa rfl
def q49c2 : zab := .seq (.ops [oA 22 3 25,oB 2 22 25]) (.ret)
@[simp] theorem yqa : type_of% (zaa q49c2.eq_1) := zaa rfl
@[simp] def q49 : QFn := ⟨23,[(.tmp 2,25)],.seq (.ops [oAB 2 25]) (.seq (.ops [oA 5 0 41,oF 6 5 41 3,⟨some 7,.makeSlice 25 (.tmp 6) (.tmp 6),25,none⟩,oB 3 7 25]) (.seq (.seq (.ops [oG 4 0 3]) (.block 0 (.loop q49l0))) (q49c2)))⟩
theorem Cv49 : zan Tryz.f49 = some q49 := by kernel_rfl
abbrev Fn50 : FuncId := 50
def q50c0 : zab := .ops [oA 12 4 3,oH 13 3 12 1 3 3,oB 4 13 3]
@[simp] theorem yqb : type_of% (zaa q50c0.eq_1) := zaa rfl
def q50c1 : zab := .seq (.block 1 (.ops [oA 14 3 26,oA 15 4 3,oA 16 0 42,oA 17 4 3,oM 18 42 16 17 0,oC 19 144 18 144,oJ 20 125 19 144 35,oM 21 26 14 15 0,oL 35 21 20 0])) (q50c0)
@[simp] theorem yqc : type_of% (zaa q50c1.eq_1) := zaa rfl
def q50l0 : zab := .seq (.seq (.ops [oA 8 4 3,oA 9 0 42,oF 10 9 42 3,oI 11 3 8 10 3 4]) (.cond (.tmp 11) (.skip) (.exit 0))) (q50c1)
@[simp] theorem yqd : type_of% (zaa q50l0.eq_1) := zaa rfl
def q50c2 : zab := .seq (.ops [oA 22 3 26,oB 2 22 26]) (.ret)
@[simp] theorem yqe : type_of% (zaa q50c2.eq_1) := zaa rfl
@[simp] def q50 : QFn := ⟨23,[(.tmp 2,26)],.seq (.ops [oAB 2 26]) (.seq (.ops [oA 5 0 42,oF 6 5 42 3,⟨some 7,.makeSlice 26 (.tmp 6) (.tmp 6),26,none⟩,oB 3 7 26]) (.seq (.seq (.ops [oG 4 0 3]) (.block 0 (.loop q50l0))) (q50c2)))⟩
theorem Cv50 : zan Tryz.f50 = some q50 := by kernel_rfl
abbrev Fn51 : FuncId := 51
def q51c0 : zab := .ops [oA 12 4 3,oH 13 3 12 1 3 3,oB 4 13 3]
@[simp] theorem yqf : type_of% (zaa q51c0.eq_1) := zaa rfl
def q51c1 : zab := .seq (.block 1 (.ops [oA 14 3 27,oA 15 4 3,oA 16 0 27,oA 17 4 3,oM 18 27 16 17 0,oC 19 9 18 9,oM 20 27 14 15 0,oL 9 20 19 0])) (q51c0)
@[simp] theorem yqg : type_of% (zaa q51c1.eq_1) := zaa rfl
def q51l0 : zab := .seq (.seq (.ops [oA 8 4 3,oA 9 0 27,oF 10 9 27 3,oI 11 3 8 10 3 4]) (.cond (.tmp 11) (.skip) (.exit 0))) (q51c1)
@[simp] theorem yqh : type_of% (zaa q51l0.eq_1) := zaa rfl
def q51c2 : zab := .seq (.ops [oA 21 3 27,oB 2 21 27]) (.ret)
@[simp] theorem yqi : type_of% (zaa q51c2.eq_1) := zaa rfl
@[simp] def q51 : QFn := ⟨22,[(.tmp 2,27)],.seq (.ops [oAB 2 27]) (.seq (.ops [oA 5 0 27,oF 6 5 27 3,⟨some 7,.makeSlice 27 (.tmp 6) (.tmp 6),27,none⟩,oB 3 7 27]) (.seq (.seq (.ops [oG 4 0 3]) (.block 0 (.loop q51l0))) (q51c2)))⟩
theorem Cv51 : zan Tryz.f51 = some q51 := by kernel_rfl
abbrev Fn52 : FuncId := 52
def q52c0 : zab := .ops [oA 15 5 3,oH 16 3 15 1 3 3,oB 5 16 3]
@[simp] theorem yqj : type_of% (zaa q52c0.eq_1) := zaa rfl
def q52c1 : zab := .seq (.block 1 (.seq (.draw [] [⟨some 17,.move (.tmp 0),23,none⟩,⟨some 18,.move (.tmp 5),3,none⟩,⟨some 19,.indexAddr 23 (.tmp 17) (.tmp 18),0,none⟩,⟨some 20,.load 33 (.tmp 19),33,none⟩,⟨some 21,.move (.tmp 1),23,none⟩,⟨some 22,.move (.tmp 5),3,none⟩,⟨some 23,.indexAddr 23 (.tmp 21) (.tmp 22),0,none⟩,⟨some 24,.load 33 (.tmp 23),33,none⟩] [⟨some 25,.call { callee := .value (.func 126),args := #[.tmp 20,.tmp 24],argTypes := #[33,33] },4,none⟩,⟨some 26,.unOp .not 4 (.tmp 25),4,none⟩]) (.cond (.tmp 26) (.seq (.ops [oE 4 4]) (.ret)) (.skip)))) (q52c0)
@[simp] theorem yqk : type_of% (zaa q52c1.eq_1) := zaa rfl
def q52l0 : zab := .seq (.seq (.ops [oA 11 5 3,oA 12 0 23,oF 13 12 23 3,oI 14 3 11 13 3 4]) (.cond (.tmp 14) (.skip) (.exit 0))) (q52c1)
@[simp] theorem yql : type_of% (zaa q52l0.eq_1) := zaa rfl
def q52c2 : zab := .seq (.ops [oY 4 4]) (.ret)
@[simp] theorem yqm : type_of% (zaa q52c2.eq_1) := zaa rfl
def q52c3 : zab := .seq (.seq (.ops [oG 5 0 3]) (.block 0 (.loop q52l0))) (q52c2)
@[simp] theorem yqn : type_of% (zaa q52c3.eq_1) := zaa rfl
@[simp] def q52 : QFn := ⟨27,[(.tmp 4,4)],.seq (.ops [oE 4 4]) (.seq (.seq (.ops [oA 6 0 23,oF 7 6 23 3,oA 8 1 23,oF 9 8 23 3,oAG 10 3 7 9 3 4]) (.cond (.tmp 10) (.seq (.ops [oE 4 4]) (.ret)) (.skip))) (q52c3))⟩
theorem Cv52 : zan Tryz.f52 = some q52 := by kernel_rfl
abbrev Fn53 : FuncId := 53
def q53c0 : zab := .ops [oA 15 5 3,oH 16 3 15 1 3 3,oB 5 16 3]
@[simp] theorem yqo : type_of% (zaa q53c0.eq_1) := zaa rfl
def q53c1 : zab := .seq (.block 1 (.seq (.draw [] [⟨some 17,.move (.tmp 0),24,none⟩,⟨some 18,.move (.tmp 5),3,none⟩,⟨some 19,.indexAddr 24 (.tmp 17) (.tmp 18),0,none⟩,⟨some 20,.load 94 (.tmp 19),94,none⟩,⟨some 21,.move (.tmp 1),24,none⟩,⟨some 22,.move (.tmp 5),3,none⟩,⟨some 23,.indexAddr 24 (.tmp 21) (.tmp 22),0,none⟩,⟨some 24,.load 94 (.tmp 23),94,none⟩] [⟨some 25,.call { callee := .value (.func 127),args := #[.tmp 20,.tmp 24],argTypes := #[94,94] },4,none⟩,⟨some 26,.unOp .not 4 (.tmp 25),4,none⟩]) (.cond (.tmp 26) (.seq (.ops [oE 4 4]) (.ret)) (.skip)))) (q53c0)
@[simp] theorem yqp : type_of% (zaa q53c1.eq_1) := zaa rfl
def q53l0 : zab := .seq (.seq (.ops [oA 11 5 3,oA 12 0 24,oF 13 12 24 3,oI 14 3 11 13 3 4]) (.cond (.tmp 14) (.skip) (.exit 0))) (q53c1)
@[simp] theorem yqq : type_of% (zaa q53l0.eq_1) := zaa rfl
def q53c2 : zab := .seq (.ops [oY 4 4]) (.ret)
@[simp] theorem yqr : type_of% (zaa q53c2.eq_1) := zaa rfl
def q53c3 : zab := .seq (.seq (.ops [oG 5 0 3]) (.block 0 (.loop q53l0))) (q53c2)
@[simp] theorem yqs : type_of% (zaa q53c3.eq_1) := zaa rfl
@[simp] def q53 : QFn := ⟨27,[(.tmp 4,4)],.seq (.ops [oE 4 4]) (.seq (.seq (.ops [oA 6 0 24,oF 7 6 24 3,oA 8 1 24,oF 9 8 24 3,oAG 10 3 7 9 3 4]) (.cond (.tmp 10) (.seq (.ops [oE 4 4]) (.ret)) (.skip))) (q53c3))⟩
theorem Cv53 : zan Tryz.f53 = some q53 := by kernel_rfl
abbrev Fn54 : FuncId := 54
def q54c0 : zab := .ops [oA 15 5 3,oH 16 3 15 1 3 3,oB 5 16 3]
@[simp] theorem yqt : type_of% (zaa q54c0.eq_1) := zaa rfl
def q54c1 : zab := .seq (.block 1 (.seq (.draw [] [⟨some 17,.move (.tmp 0),25,none⟩,⟨some 18,.move (.tmp 5),3,none⟩,⟨some 19,.indexAddr 25 (.tmp 17) (.tmp 18),0,none⟩,⟨some 20,.load 97 (.tmp 19),97,none⟩,⟨some 21,.move (.tmp 1),25,none⟩,⟨some 22,.move (.tmp 5),3,none⟩,⟨some 23,.indexAddr 25 (.tmp 21) (.tmp 22),0,none⟩,⟨some 24,.load 97 (.tmp 23),97,none⟩] [⟨some 25,.call { callee := .value (.func 128),args := #[.tmp 20,.tmp 24],argTypes := #[97,97] },4,none⟩,⟨some 26,.unOp .not 4 (.tmp 25),4,none⟩]) (.cond (.tmp 26) (.seq (.ops [oE 4 4]) (.ret)) (.skip)))) (q54c0)
@[simp] theorem yqu : type_of% (zaa q54c1.eq_1) := zaa rfl
def q54l0 : zab := .seq (.seq (.ops [oA 11 5 3,oA 12 0 25,oF 13 12 25 3,oI 14 3 11 13 3 4]) (.cond (.tmp 14) (.skip) (.exit 0))) (q54c1)
@[simp] theorem yqv : type_of% (zaa q54l0.eq_1) := zaa rfl
def q54c2 : zab := .seq (.ops [oY 4 4]) (.ret)
@[simp] theorem yqw : type_of% (zaa q54c2.eq_1) := zaa rfl
def q54c3 : zab := .seq (.seq (.ops [oG 5 0 3]) (.block 0 (.loop q54l0))) (q54c2)
@[simp] theorem yqx : type_of% (zaa q54c3.eq_1) := zaa rfl
@[simp] def q54 : QFn := ⟨27,[(.tmp 4,4)],.seq (.ops [oE 4 4]) (.seq (.seq (.ops [oA 6 0 25,oF 7 6 25 3,oA 8 1 25,oF 9 8 25 3,oAG 10 3 7 9 3 4]) (.cond (.tmp 10) (.seq (.ops [oE 4 4]) (.ret)) (.skip))) (q54c3))⟩
theorem Cv54 : zan Tryz.f54 = some q54 := by kernel_rfl
abbrev Fn55 : FuncId := 55
def q55c0 : zab := .ops [oA 15 5 3,oH 16 3 15 1 3 3,oB 5 16 3]
@[simp] theorem yqy : type_of% (zaa q55c0.eq_1) := zaa rfl
def q55c1 : zab := .seq (.block 1 (.seq (.draw [] [⟨some 17,.move (.tmp 0),26,none⟩,⟨some 18,.move (.tmp 5),3,none⟩,⟨some 19,.indexAddr 26 (.tmp 17) (.tmp 18),0,none⟩,⟨some 20,.load 35 (.tmp 19),35,none⟩,⟨some 21,.move (.tmp 1),26,none⟩,⟨some 22,.move (.tmp 5),3,none⟩,⟨some 23,.indexAddr 26 (.tmp 21) (.tmp 22),0,none⟩,⟨some 24,.load 35 (.tmp 23),35,none⟩] [⟨some 25,.call { callee := .value (.func 129),args := #[.tmp 20,.tmp 24],argTypes := #[35,35] },4,none⟩,⟨some 26,.unOp .not 4 (.tmp 25),4,none⟩]) (.cond (.tmp 26) (.seq (.ops [oE 4 4]) (.ret)) (.skip)))) (q55c0)
@[simp] theorem yqz : type_of% (zaa q55c1.eq_1) := zaa rfl
def q55l0 : zab := .seq (.seq (.ops [oA 11 5 3,oA 12 0 26,oF 13 12 26 3,oI 14 3 11 13 3 4]) (.cond (.tmp 14) (.skip) (.exit 0))) (q55c1)
@[simp] theorem yq0 : type_of% (zaa q55l0.eq_1) := zaa rfl
def q55c2 : zab := .seq (.ops [oY 4 4]) (.ret)
@[simp] theorem yq1 : type_of% (zaa q55c2.eq_1) := zaa rfl
def q55c3 : zab := .seq (.seq (.ops [oG 5 0 3]) (.block 0 (.loop q55l0))) (q55c2)
@[simp] theorem yq2 : type_of% (zaa q55c3.eq_1) := zaa rfl
@[simp] def q55 : QFn := ⟨27,[(.tmp 4,4)],.seq (.ops [oE 4 4]) (.seq (.seq (.ops [oA 6 0 26,oF 7 6 26 3,oA 8 1 26,oF 9 8 26 3,oAG 10 3 7 9 3 4]) (.cond (.tmp 10) (.seq (.ops [oE 4 4]) (.ret)) (.skip))) (q55c3))⟩
theorem Cv55 : zan Tryz.f55 = some q55 := by kernel_rfl
abbrev Fn61 : FuncId := 61
def q61c0 : zab := .ops [oA 23 4 3,oH 24 3 23 1 3 3,oB 4 24 3]
@[simp] theorem yq3 : type_of% (zaa q61c0.eq_1) := zaa rfl
def q61c1 : zab := .seq (.block 1 (.draw [] [⟨some 25,.move (.tmp 3),9,none⟩,⟨some 26,.binOp .add 9 (.tmp 25) (.const (.string { data := #[108,101,116,32] })) 9,9,none⟩,⟨some 27,.fieldAddr 29 (.tmp 1) 2,0,none⟩,⟨some 28,.load 23 (.tmp 27),23,none⟩,⟨some 29,.move (.tmp 4),3,none⟩,⟨some 30,.indexAddr 23 (.tmp 28) (.tmp 29),0,none⟩,⟨some 31,.fieldAddr 33 (.tmp 30) 0,0,none⟩,⟨some 32,.load 9 (.tmp 31),9,none⟩,⟨some 33,.binOp .add 9 (.tmp 26) (.tmp 32) 9,9,none⟩,⟨some 34,.binOp .add 9 (.tmp 33) (.const (.string { data := #[32] })) 9,9,none⟩,⟨some 35,.fieldAddr 29 (.tmp 1) 2,0,none⟩,⟨some 36,.load 23 (.tmp 35),23,none⟩,⟨some 37,.move (.tmp 4),3,none⟩,⟨some 38,.indexAddr 23 (.tmp 36) (.tmp 37),0,none⟩,⟨some 39,.fieldAddr 33 (.tmp 38) 1,0,none⟩,⟨some 40,.load 9 (.tmp 39),9,none⟩] [⟨some 41,.binOp .add 9 (.tmp 34) (.tmp 40) 9,9,none⟩,⟨some 42,.binOp .add 9 (.tmp 41) (.const (.string { data := #[10] })) 9,9,none⟩,⟨some 3,.assign (.tmp 42),9,none⟩])) (q61c0)
@[simp] theorem yq4 : type_of% (zaa q61c1.eq_1) := zaa rfl
def q61l0 : zab := .seq (.seq (.ops [oA 18 4 3,oD 19 29 1 2 0,oC 20 23 19 23,oF 21 20 23 3,oI 22 3 18 21 3 4]) (.cond (.tmp 22) (.skip) (.exit 0))) (q61c1)
@[simp] theorem yq5 : type_of% (zaa q61l0.eq_1) := zaa rfl
def q61c2 : zab := .ops [oA 48 5 3,oH 49 3 48 1 3 3,oB 5 49 3]
@[simp] theorem yq6 : type_of% (zaa q61c2.eq_1) := zaa rfl
def q61c3 : zab := .seq (.block 3 (.ops [oA 50 3 9,⟨some 51,.binOp .add 9 (.tmp 50) (.const (.string { data := #[98,117,105,108,100,32] })) 9,9,none⟩,oD 52 29 1 3 0,oC 53 24 52 24,oA 54 5 3,oM 55 24 53 54 0,oC 56 94 55 94,oJ 57 130 56 94 9,oAK 58 9 51 57 9 9,⟨some 59,.binOp .add 9 (.tmp 58) (.const (.string { data := #[10] })) 9,9,none⟩,oB 3 59 9])) (q61c2)
@[simp] theorem yq7 : type_of% (zaa q61c3.eq_1) := zaa rfl
def q61l1 : zab := .seq (.seq (.ops [oA 43 5 3,oD 44 29 1 3 0,oC 45 24 44 24,oF 46 45 24 3,oI 47 3 43 46 3 4]) (.cond (.tmp 47) (.skip) (.exit 2))) (q61c3)
@[simp] theorem yq8 : type_of% (zaa q61l1.eq_1) := zaa rfl
def q61c4 : zab := .ops [oA 65 6 3,oH 66 3 65 1 3 3,oB 6 66 3]
@[simp] theorem yq9 : type_of% (zaa q61c4.eq_1) := zaa rfl
def q61c5 : zab := .seq (.block 5 (.ops [oA 67 3 9,⟨some 68,.binOp .add 9 (.tmp 67) (.const (.string { data := #[114,117,110,32] })) 9,9,none⟩,oD 69 29 1 4 0,oC 70 24 69 24,oA 71 6 3,oM 72 24 70 71 0,oC 73 94 72 94,oJ 74 130 73 94 9,oAK 75 9 68 74 9 9,⟨some 76,.binOp .add 9 (.tmp 75) (.const (.string { data := #[10] })) 9,9,none⟩,oB 3 76 9])) (q61c4)
@[simp] theorem yra : type_of% (zaa q61c5.eq_1) := zaa rfl
def q61l2 : zab := .seq (.seq (.ops [oA 60 6 3,oD 61 29 1 4 0,oC 62 24 61 24,oF 63 62 24 3,oI 64 3 60 63 3 4]) (.cond (.tmp 64) (.skip) (.exit 4))) (q61c5)
@[simp] theorem yrb : type_of% (zaa q61l2.eq_1) := zaa rfl
def q61c6 : zab := .ops [oA 82 7 3,oH 83 3 82 1 3 3,oB 7 83 3]
@[simp] theorem yrc : type_of% (zaa q61c6.eq_1) := zaa rfl
def q61c7 : zab := .seq (.block 7 (.draw [] [⟨some 84,.move (.tmp 3),9,none⟩,⟨some 85,.binOp .add 9 (.tmp 84) (.const (.string { data := #[115,111,117,114,99,101,32] })) 9,9,none⟩,⟨some 86,.fieldAddr 29 (.tmp 1) 5,0,none⟩,⟨some 87,.load 25 (.tmp 86),25,none⟩,⟨some 88,.move (.tmp 7),3,none⟩,⟨some 89,.indexAddr 25 (.tmp 87) (.tmp 88),0,none⟩,⟨some 90,.fieldAddr 97 (.tmp 89) 0,0,none⟩,⟨some 91,.load 9 (.tmp 90),9,none⟩,⟨some 92,.binOp .add 9 (.tmp 85) (.tmp 91) 9,9,none⟩,⟨some 93,.binOp .add 9 (.tmp 92) (.const (.string { data := #[32] })) 9,9,none⟩,⟨some 94,.fieldAddr 29 (.tmp 1) 5,0,none⟩,⟨some 95,.load 25 (.tmp 94),25,none⟩,⟨some 96,.move (.tmp 7),3,none⟩,⟨some 97,.indexAddr 25 (.tmp 95) (.tmp 96),0,none⟩,⟨some 98,.fieldAddr 97 (.tmp 97) 1,0,none⟩,⟨some 99,.load 9 (.tmp 98),9,none⟩] [⟨some 100,.binOp .add 9 (.tmp 93) (.tmp 99) 9,9,none⟩,⟨some 101,.binOp .add 9 (.tmp 100) (.const (.string { data := #[10] })) 9,9,none⟩,⟨some 3,.assign (.tmp 101),9,none⟩])) (q61c6)
@[simp] theorem yrd : type_of% (zaa q61c7.eq_1) := zaa rfl
def q61l3 : zab := .seq (.seq (.ops [oA 77 7 3,oD 78 29 1 5 0,oC 79 25 78 25,oF 80 79 25 3,oI 81 3 77 80 3 4]) (.cond (.tmp 81) (.skip) (.exit 6))) (q61c7)
@[simp] theorem yre : type_of% (zaa q61l3.eq_1) := zaa rfl
def q61c8 : zab := .ops [oA 107 8 3,oH 108 3 107 1 3 3,oB 8 108 3]
@[simp] theorem yrf : type_of% (zaa q61c8.eq_1) := zaa rfl
def q61c9 : zab := .seq (.block 9 (.draw [] [⟨some 109,.move (.tmp 3),9,none⟩,⟨some 110,.binOp .add 9 (.tmp 109) (.const (.string { data := #[112,105,101,99,101,32] })) 9,9,none⟩,⟨some 111,.fieldAddr 29 (.tmp 1) 6,0,none⟩,⟨some 112,.load 26 (.tmp 111),26,none⟩,⟨some 113,.move (.tmp 8),3,none⟩,⟨some 114,.indexAddr 26 (.tmp 112) (.tmp 113),0,none⟩,⟨some 115,.fieldAddr 35 (.tmp 114) 0,0,none⟩,⟨some 116,.load 9 (.tmp 115),9,none⟩,⟨some 117,.binOp .add 9 (.tmp 110) (.tmp 116) 9,9,none⟩,⟨some 118,.binOp .add 9 (.tmp 117) (.const (.string { data := #[32] })) 9,9,none⟩,⟨some 119,.fieldAddr 29 (.tmp 1) 6,0,none⟩,⟨some 120,.load 26 (.tmp 119),26,none⟩,⟨some 121,.move (.tmp 8),3,none⟩,⟨some 122,.indexAddr 26 (.tmp 120) (.tmp 121),0,none⟩,⟨some 123,.fieldAddr 35 (.tmp 122) 1,0,none⟩,⟨some 124,.load 9 (.tmp 123),9,none⟩] [⟨some 125,.binOp .add 9 (.tmp 118) (.tmp 124) 9,9,none⟩,⟨some 126,.binOp .add 9 (.tmp 125) (.const (.string { data := #[10] })) 9,9,none⟩,⟨some 3,.assign (.tmp 126),9,none⟩])) (q61c8)
@[simp] theorem yrg : type_of% (zaa q61c9.eq_1) := zaa rfl
def q61l4 : zab := .seq (.seq (.ops [oA 102 8 3,oD 103 29 1 6 0,oC 104 26 103 26,oF 105 104 26 3,oI 106 3 102 105 3 4]) (.cond (.tmp 106) (.skip) (.exit 8))) (q61c9)
@[simp] theorem yrh : type_of% (zaa q61l4.eq_1) := zaa rfl
def q61c10 : zab := .ops [oA 132 9 3,oH 133 3 132 1 3 3,oB 9 133 3]
@[simp] theorem ydw : type_of% (zaa q61c10.eq_1) := zaa rfl
def q61c11 : zab := .seq (.block 11 (.ops [oA 134 3 9,⟨some 135,.binOp .add 9 (.tmp 134) (.const (.string { data := #[115,116,101,112,32] })) 9,9,none⟩,oD 136 29 1 7 0,oC 137 27 136 27,oA 138 9 3,oM 139 27 137 138 0,oC 140 9 139 9,oAK 141 9 135 140 9 9,⟨some 142,.binOp .add 9 (.tmp 141) (.const (.string { data := #[10] })) 9,9,none⟩,oB 3 142 9])) (q61c10)
@[simp] theorem ydx : type_of% (zaa q61c11.eq_1) := zaa rfl
def q61l5 : zab := .seq (.seq (.ops [oA 127 9 3,oD 128 29 1 7 0,oC 129 27 128 27,oF 130 129 27 3,oI 131 3 127 130 3 4]) (.cond (.tmp 131) (.skip) (.exit 10))) (q61c11)
@[simp] theorem yri : type_of% (zaa q61l5.eq_1) := zaa rfl
def q61c12 : zab := .seq (.ops [oA 143 3 9,oB 2 143 9]) (.ret)
@[simp] theorem zt1 : type_of% (zaa q61c12.eq_1) := zaa rfl
def q61c13 : zab := .seq (.seq (.ops [oG 9 0 3]) (.block 10 (.loop q61l5))) (q61c12)
@[simp] theorem z0f : type_of% (zaa q61c13.eq_1) := zaa rfl
def q61c14 : zab := .seq (.seq (.ops [oG 8 0 3]) (.block 8 (.loop q61l4))) (q61c13)
@[simp] theorem z0g : type_of% (zaa q61c14.eq_1) := zaa rfl
def q61c15 : zab := .seq (.seq (.ops [oG 7 0 3]) (.block 6 (.loop q61l3))) (q61c14)
@[simp] theorem z0h : type_of% (zaa q61c15.eq_1) := zaa rfl
def q61c16 : zab := .seq (.seq (.ops [oG 6 0 3]) (.block 4 (.loop q61l2))) (q61c15)
@[simp] theorem z0i : type_of% (zaa q61c16.eq_1) := zaa rfl
def q61c17 : zab := .seq (.seq (.ops [oG 5 0 3]) (.block 2 (.loop q61l1))) (q61c16)
@[simp] theorem z0j : type_of% (zaa q61c17.eq_1) := zaa rfl
@[simp] def q61 : QFn := ⟨144,[(.tmp 2,9)],.seq (.ops [oN 1 29 0 0,oO 2 9]) (.seq (.ops [oD 10 29 1 0 0,oC 11 9 10 9,⟨some 12,.binOp .add 9 (.const (.string { data := #[110,97,109,101,32] })) (.tmp 11) 9,9,none⟩,⟨some 13,.binOp .add 9 (.tmp 12) (.const (.string { data := #[10,118,101,114,115,105,111,110,32] })) 9,9,none⟩,oD 14 29 1 1 0,oC 15 9 14 9,oAK 16 9 13 15 9 9,⟨some 17,.binOp .add 9 (.tmp 16) (.const (.string { data := #[10] })) 9,9,none⟩,oB 3 17 9]) (.seq (.seq (.ops [oG 4 0 3]) (.block 0 (.loop q61l0))) (q61c17)))⟩
theorem Cv61 : zan Tryz.f61 = some q61 := by kernel_rfl
abbrev Fn62 : FuncId := 62
@[simp] def q62 : QFn := ⟨7,[],.ops [oA 3 0 27,⟨some 4,.call { callee := .value (.func 64),args := #[.tmp 3,.const (.string { data := #[32] })],argTypes := #[27,9] },9,none⟩,⟨some 5,.binOp .add 9 (.tmp 4) (.const (.string { data := #[10] })) 9,9,none⟩,oV 6 63 1 5 86 9 89]⟩
theorem Cv62 : zan Tryz.f62 = some q62 := by kernel_rfl
@[simp] def q63 : QFn := ⟨19,[(.tmp 4,3),(.tmp 5,88)],.seq (.ops [oG 4 0 3,⟨some 5,.assign (.const .nilIface),88,none⟩]) (.seq (.ops [oA 6 0 84,oJ 7 131 6 84 0]) (.seq (.ops [oA 8 0 84,oA 9 0 84,⟨some 10,.nilCheck (.tmp 9),0,none⟩,oD 11 86 10 1 0,oC 12 22 11 22,oA 13 1 9,oAC 14 12 13 22 9 22,⟨some 15,.nilCheck (.tmp 8),0,none⟩,oD 16 86 15 1 0,oL 22 16 14 0]) (.seq (.ops [oA 17 1 9,oF 18 17 9 3,oB 4 18 3,⟨some 5,.assign (.const .nilIface),88,none⟩]) (.ret))))⟩
theorem Cv63 : zan Tryz.f63 = some q63 := by kernel_rfl
abbrev Fn65 : FuncId := 65
def q65c0 : zab := .seq (.ops [oD 32 94 1 0 0,oC 33 9 32 9,oB 2 33 9]) (.ret)
@[simp] theorem yrj : type_of% (zaa q65c0.eq_1) := zaa rfl
def q65c1 : zab := .seq (.seq (.ops [oD 6 94 1 1 0,oC 7 3 6 3]) (.block 0 (.seq (.ops [oAM 9 3 7 1 3 4,oB 8 9 4]) (.cond (.tmp 8) (.seq (.ops [oD 10 94 1 0 0,oC 11 9 10 9,⟨some 12,.binOp .add 9 (.tmp 11) (.const (.string { data := #[61] })) 9,9,none⟩,oD 13 94 1 2 0,oC 14 9 13 9,oAK 15 9 12 14 9 9,oB 2 15 9]) (.ret)) (.seq (.ops [oAM 17 3 7 2 3 4,oB 16 17 4]) (.cond (.tmp 16) (.seq (.ops [oD 18 94 1 0 0,oC 19 9 18 9,⟨some 20,.binOp .add 9 (.tmp 19) (.const (.string { data := #[62,61] })) 9,9,none⟩,oD 21 94 1 2 0,oC 22 9 21 9,oAK 23 9 20 22 9 9,oB 2 23 9]) (.ret)) (.seq (.ops [oAM 25 3 7 3 3 4,oB 24 25 4]) (.cond (.tmp 24) (.seq (.ops [oD 26 94 1 0 0,oC 27 9 26 9,⟨some 28,.binOp .add 9 (.tmp 27) (.const (.string { data := #[60] })) 9,9,none⟩,oD 29 94 1 2 0,oC 30 9 29 9,oAK 31 9 28 30 9 9,oB 2 31 9]) (.ret)) (.skip))))))))) (q65c0)
@[simp] theorem yrk : type_of% (zaa q65c1.eq_1) := zaa rfl
@[simp] def q65 : QFn := ⟨34,[(.tmp 2,9)],.seq (.ops [oN 1 94 0 0,oO 2 9]) (.seq (.seq (.ops [oC 3 94 1 94,oJ 4 90 3 94 4,oS 5 4 4 4]) (.cond (.tmp 5) (.seq (.ops [oO 2 9]) (.ret)) (.skip))) (q65c1))⟩
theorem Cv65 : zan Tryz.f65 = some q65 := by kernel_rfl
abbrev Fn67 : FuncId := 67
def q67c0 : zab := .ops [oA 21 9 3,oH 22 3 21 1 3 3,oB 9 22 3]
@[simp] theorem yrl : type_of% (zaa q67c0.eq_1) := zaa rfl
def q67c1 : zab := .seq (.block 1 (.seq (.ops [oA 23 0 9,oA 24 9 3,oAH 25 9 23 24 5,oA 26 1 5,⟨some 27,.binOp .eql 5 (.tmp 25) (.tmp 26) 5,4,none⟩]) (.cond (.tmp 27) (.seq (.ops [oA 28 7 27,oA 29 0 9,oA 30 8 3,oA 31 9 3,⟨some 32,.slice 9 (.tmp 29) (some (.tmp 30)) (some (.tmp 31)) none,9,none⟩,oAF 33 27 1 0 32 27,oAC 34 28 33 27 27 27,oB 7 34 27]) (.ops [oA 35 9 3,oH 36 3 35 1 3 3,oB 8 36 3])) (.skip)))) (q67c0)
@[simp] theorem yrm : type_of% (zaa q67c1.eq_1) := zaa rfl
def q67l0 : zab := .seq (.seq (.ops [oA 11 9 3,oA 12 0 9,oF 13 12 9 3,oI 14 3 11 13 3 4,oA 15 14 4,oQ 16 7 27 15,oAU 17 16 27 3 15,oQ 18 2 3 15,⟨some 19,.binOp .lss 3 (.tmp 17) (.tmp 18) 3,4,some (15,true)⟩,oU 20 15 19 4]) (.cond (.tmp 20) (.skip) (.exit 0))) (q67c1)
@[simp] theorem yrn : type_of% (zaa q67l0.eq_1) := zaa rfl
def q67c2 : zab := .seq (.ops [oA 37 7 27,oA 38 0 9,oA 39 8 3,⟨some 40,.slice 9 (.tmp 38) (some (.tmp 39)) none none,9,none⟩,oAF 41 27 1 0 40 27,oAC 42 37 41 27 27 27,oB 6 42 27]) (.ret)
@[simp] theorem yro : type_of% (zaa q67c2.eq_1) := zaa rfl
@[simp] def q67 : QFn := ⟨43,[(.tmp 6,27)],.seq (.ops [oAB 6 27]) (.seq (.ops [⟨some 10,.buildSlice 27 0 #[],27,none⟩,oB 7 10 27]) (.seq (.ops [oG 8 0 3]) (.seq (.seq (.ops [oG 9 0 3]) (.block 0 (.loop q67l0))) (q67c2))))⟩
theorem Cv67 : zan Tryz.f67 = some q67 := by kernel_rfl
abbrev Fn85 : FuncId := 85
def q85c0 : zab := .ops [oH 48 3 23 1 3 3,oA 23 48 3]
@[simp] theorem yrp : type_of% (zaa q85c0.eq_1) := zaa rfl
def q85c1 : zab := .seq (.block 1 (.seq (.ops [oA 25 23 3,oB 3 25 3]) (.seq (.ops [oA 26 0 9,oA 27 3 3,oAH 28 9 26 27 5,⟨some 29,.binOp .lss 5 (.tmp 28) (.const (.int .u8 97)) 5,4,none⟩,oA 30 29 4,oK 31 0 9 30,oK 32 3 3 30,oAO 33 9 31 32 5 30,oAS 34 5 33 122 5 4 30,oP 35 30 34 4,oA 36 35 4,oQ 37 0 9 36,oQ 38 3 3 36,⟨some 39,.index 9 (.tmp 37) (.tmp 38),5,some (36,true)⟩,⟨some 40,.binOp .lss 5 (.tmp 39) (.const (.int .u8 48)) 5,4,some (36,true)⟩,oQ 41 40 4 36,oK 42 0 9 41,oK 43 3 3 41,oAO 44 9 42 43 5 41,oAS 45 5 44 57 5 4 41,⟨some 46,.pick (.tmp 41) (.const (.bool true)) (.tmp 45),4,some (36,true)⟩,oU 47 36 46 4]) (.cond (.tmp 47) (.seq (.ops [oE 2 4]) (.ret)) (.skip))))) (q85c0)
@[simp] theorem yrq : type_of% (zaa q85c1.eq_1) := zaa rfl
def q85l0 : zab := .seq (.ops [oI 24 3 23 22 3 4]) (.seq (.cond (.tmp 24) (.skip) (.exit 0)) (q85c1))
@[simp] theorem yrr : type_of% (zaa q85l0.eq_1) := zaa rfl
def q85c2 : zab := .seq (.ops [oY 2 4]) (.ret)
@[simp] theorem yrs : type_of% (zaa q85c2.eq_1) := zaa rfl
def q85c3 : zab := .seq (.seq (.ops [oA 21 0 9,oF 22 21 9 3,oZ 23 0 3]) (.block 0 (.loop q85l0))) (q85c2)
@[simp] theorem yrt : type_of% (zaa q85c3.eq_1) := zaa rfl
@[simp] def q85 : QFn := ⟨49,[(.tmp 2,4)],.seq (.ops [oE 2 4]) (.seq (.seq (.ops [oA 4 0 9,⟨some 5,.binOp .eql 9 (.tmp 4) (.const (.string { data := #[] })) 9,4,none⟩,oA 6 5 4,oK 7 0 9 6,oAR 8 7 9 3 6,⟨some 9,.binOp .gtr 3 (.tmp 8) (.const (.int .i64 10)) 3,4,some (6,false)⟩,oP 10 6 9 4,oA 11 10 4,oK 12 0 9 11,⟨some 13,.index 9 (.tmp 12) (.const (.int .i64 0)),5,some (11,false)⟩,⟨some 14,.binOp .lss 5 (.tmp 13) (.const (.int .u8 97)) 5,4,some (11,false)⟩,oP 15 11 14 4,oA 16 15 4,oK 17 0 9 16,⟨some 18,.index 9 (.tmp 17) (.const (.int .i64 0)),5,some (16,false)⟩,oAS 19 5 18 122 5 4 16,oP 20 16 19 4]) (.cond (.tmp 20) (.seq (.ops [oE 2 4]) (.ret)) (.skip))) (q85c3))⟩
theorem Cv85 : zan Tryz.f85 = some q85 := by kernel_rfl
abbrev Fn86 : FuncId := 86
@[simp] def q86 : QFn := ⟨11,[(.tmp 2,4)],.seq (.ops [oE 2 4]) (.seq (.ops [oA 6 0 9,oJ 7 146 6 9 168,oA 5 7 168,oT 8 5 0 167,oT 9 5 1 4,oB 3 8 167,oB 4 9 4]) (.seq (.ops [oA 10 4 4,oB 2 10 4]) (.ret)))⟩
theorem Cv86 : zan Tryz.f86 = some q86 := by kernel_rfl
abbrev Fn87 : FuncId := 87
def q87c0 : zab := .ops [oH 17 3 9 1 3 3,oA 9 17 3]
@[simp] theorem yru : type_of% (zaa q87c0.eq_1) := zaa rfl
def q87c1 : zab := .seq (.block 1 (.seq (.ops [oM 11 23 7 9 0,oC 12 33 11 33,oR 6 33 0,oL 33 6 12 0]) (.seq (.ops [oA 13 1 115,oC 14 33 6 33,oAA 15 13 14 33 4,oS 16 4 15 4]) (.cond (.tmp 16) (.seq (.ops [oE 4 4]) (.ret)) (.skip))))) (q87c0)
@[simp] theorem yrv : type_of% (zaa q87c1.eq_1) := zaa rfl
def q87l0 : zab := .seq (.ops [oI 10 3 9 8 3 0]) (.seq (.cond (.tmp 10) (.skip) (.exit 0)) (q87c1))
@[simp] theorem yrw : type_of% (zaa q87l0.eq_1) := zaa rfl
def q87c2 : zab := .seq (.ops [oY 4 4]) (.ret)
@[simp] theorem yrx : type_of% (zaa q87c2.eq_1) := zaa rfl
@[simp] def q87 : QFn := ⟨18,[(.tmp 4,4)],.seq (.ops [oE 4 4]) (.seq (.seq (.ops [oA 7 0 23,oF 8 7 23 3,oZ 9 0 3]) (.block 0 (.loop q87l0))) (q87c2))⟩
theorem Cv87 : zan Tryz.f87 = some q87 := by kernel_rfl
abbrev Fn88 : FuncId := 88
@[simp] def q88 : QFn := ⟨11,[(.tmp 2,4)],.seq (.ops [oN 1 33 0 0,oE 2 4]) (.seq (.ops [oD 3 33 1 0 0,oC 4 9 3 9,oJ 5 85 4 9 4,oA 6 5 4,oAD 7 33 1 1 0 6,oAE 8 9 7 9 6,oAN 9 96 8 9 4 6,oU 10 6 9 4,oB 2 10 4]) (.ret))⟩
theorem Cv88 : zan Tryz.f88 = some q88 := by kernel_rfl
abbrev Fn89 : FuncId := 89
def q89c0 : zab := .ops [oH 17 3 9 1 3 3,oA 9 17 3]
@[simp] theorem yry : type_of% (zaa q89c0.eq_1) := zaa rfl
def q89c1 : zab := .seq (.block 1 (.seq (.ops [oM 11 24 7 9 0,oC 12 94 11 94,oR 6 94 0,oL 94 6 12 0]) (.seq (.ops [oA 13 1 117,oC 14 94 6 94,oAA 15 13 14 94 4,oS 16 4 15 4]) (.cond (.tmp 16) (.seq (.ops [oE 4 4]) (.ret)) (.skip))))) (q89c0)
@[simp] theorem yrz : type_of% (zaa q89c1.eq_1) := zaa rfl
def q89l0 : zab := .seq (.ops [oI 10 3 9 8 3 0]) (.seq (.cond (.tmp 10) (.skip) (.exit 0)) (q89c1))
@[simp] theorem yr0 : type_of% (zaa q89l0.eq_1) := zaa rfl
def q89c2 : zab := .seq (.ops [oY 4 4]) (.ret)
@[simp] theorem yr1 : type_of% (zaa q89c2.eq_1) := zaa rfl
@[simp] def q89 : QFn := ⟨18,[(.tmp 4,4)],.seq (.ops [oE 4 4]) (.seq (.seq (.ops [oA 7 0 24,oF 8 7 24 3,oZ 9 0 3]) (.block 0 (.loop q89l0))) (q89c2))⟩
theorem Cv89 : zan Tryz.f89 = some q89 := by kernel_rfl
abbrev Fn90 : FuncId := 90
def q90c0 : zab := .cond (.tmp 14) (.seq (.ops [oD 18 94 1 2 0,oC 19 9 18 9,oJ 20 86 19 9 4,oB 2 20 4]) (.ret)) (.skip)
@[simp] theorem yr2 : type_of% (zaa q90c0.eq_1) := zaa rfl
def q90c1 : zab := .seq (.ops [oE 2 4]) (.ret)
@[simp] theorem yr3 : type_of% (zaa q90c1.eq_1) := zaa rfl
def q90c2 : zab := .seq (.seq (.ops [oD 7 94 1 1 0,oC 8 3 7 3]) (.block 0 (.seq (.ops [oAM 10 3 8 0 3 4,oB 9 10 4]) (.cond (.tmp 9) (.seq (.ops [oD 11 94 1 2 0,oC 12 9 11 9,⟨some 13,.binOp .eql 9 (.tmp 12) (.const (.string { data := #[] })) 9,4,none⟩,oB 2 13 4]) (.ret)) (.seq (.seq (.ops [oAM 15 3 8 1 3 4,oB 14 15 4]) (.cond (.tmp 14) (.skip) (.seq (.ops [oAM 16 3 8 2 3 4,oB 14 16 4]) (.cond (.tmp 14) (.skip) (.ops [oAM 17 3 8 3 3 4,oB 14 17 4]))))) (q90c0)))))) (q90c1)
@[simp] theorem yr4 : type_of% (zaa q90c2.eq_1) := zaa rfl
@[simp] def q90 : QFn := ⟨21,[(.tmp 2,4)],.seq (.ops [oN 1 94 0 0,oE 2 4]) (.seq (.seq (.ops [oD 3 94 1 0 0,oC 4 9 3 9,oJ 5 85 4 9 4,oS 6 4 5 4]) (.cond (.tmp 6) (.seq (.ops [oE 2 4]) (.ret)) (.skip))) (q90c2))⟩
theorem Cv90 : zan Tryz.f90 = some q90 := by kernel_rfl
abbrev Fn91 : FuncId := 91
def q91c0 : zab := .ops [oH 17 3 9 1 3 3,oA 9 17 3]
@[simp] theorem yr5 : type_of% (zaa q91c0.eq_1) := zaa rfl
def q91c1 : zab := .seq (.block 1 (.seq (.ops [oM 11 25 7 9 0,oC 12 97 11 97,oR 6 97 0,oL 97 6 12 0]) (.seq (.ops [oA 13 1 119,oC 14 97 6 97,oAA 15 13 14 97 4,oS 16 4 15 4]) (.cond (.tmp 16) (.seq (.ops [oE 4 4]) (.ret)) (.skip))))) (q91c0)
@[simp] theorem yr6 : type_of% (zaa q91c1.eq_1) := zaa rfl
def q91l0 : zab := .seq (.ops [oI 10 3 9 8 3 0]) (.seq (.cond (.tmp 10) (.skip) (.exit 0)) (q91c1))
@[simp] theorem yr7 : type_of% (zaa q91l0.eq_1) := zaa rfl
def q91c2 : zab := .seq (.ops [oY 4 4]) (.ret)
@[simp] theorem yr8 : type_of% (zaa q91c2.eq_1) := zaa rfl
@[simp] def q91 : QFn := ⟨18,[(.tmp 4,4)],.seq (.ops [oE 4 4]) (.seq (.seq (.ops [oA 7 0 25,oF 8 7 25 3,oZ 9 0 3]) (.block 0 (.loop q91l0))) (q91c2))⟩
theorem Cv91 : zan Tryz.f91 = some q91 := by kernel_rfl
abbrev Fn92 : FuncId := 92
@[simp] def q92 : QFn := ⟨11,[(.tmp 2,4)],.seq (.ops [oN 1 97 0 0,oE 2 4]) (.seq (.ops [oD 3 97 1 0 0,oC 4 9 3 9,oJ 5 147 4 9 4,oA 6 5 4,oAD 7 97 1 1 0 6,oAE 8 9 7 9 6,oAN 9 148 8 9 4 6,oU 10 6 9 4,oB 2 10 4]) (.ret))⟩
theorem Cv92 : zan Tryz.f92 = some q92 := by kernel_rfl
abbrev Fn93 : FuncId := 93
def q93c0 : zab := .ops [oH 17 3 9 1 3 3,oA 9 17 3]
@[simp] theorem yr9 : type_of% (zaa q93c0.eq_1) := zaa rfl
def q93c1 : zab := .seq (.block 1 (.seq (.ops [oM 11 26 7 9 0,oC 12 35 11 35,oR 6 35 0,oL 35 6 12 0]) (.seq (.ops [oA 13 1 121,oC 14 35 6 35,oAA 15 13 14 35 4,oS 16 4 15 4]) (.cond (.tmp 16) (.seq (.ops [oE 4 4]) (.ret)) (.skip))))) (q93c0)
@[simp] theorem ysa : type_of% (zaa q93c1.eq_1) := zaa rfl
def q93l0 : zab := .seq (.ops [oI 10 3 9 8 3 0]) (.seq (.cond (.tmp 10) (.skip) (.exit 0)) (q93c1))
@[simp] theorem ysb : type_of% (zaa q93l0.eq_1) := zaa rfl
def q93c2 : zab := .seq (.ops [oY 4 4]) (.ret)
@[simp] theorem ysc : type_of% (zaa q93c2.eq_1) := zaa rfl
@[simp] def q93 : QFn := ⟨18,[(.tmp 4,4)],.seq (.ops [oE 4 4]) (.seq (.seq (.ops [oA 7 0 26,oF 8 7 26 3,oZ 9 0 3]) (.block 0 (.loop q93l0))) (q93c2))⟩
theorem Cv93 : zan Tryz.f93 = some q93 := by kernel_rfl
abbrev Fn94 : FuncId := 94
@[simp] def q94 : QFn := ⟨11,[(.tmp 2,4)],.seq (.ops [oN 1 35 0 0,oE 2 4]) (.seq (.ops [oD 3 35 1 0 0,oC 4 9 3 9,oJ 5 85 4 9 4,oA 6 5 4,oAD 7 35 1 1 0 6,oAE 8 9 7 9 6,oAN 9 149 8 9 4 6,oU 10 6 9 4,oB 2 10 4]) (.ret))⟩
theorem Cv94 : zan Tryz.f94 = some q94 := by kernel_rfl
abbrev Fn95 : FuncId := 95
def q95c0 : zab := .ops [oH 17 3 9 1 3 3,oA 9 17 3]
@[simp] theorem ysd : type_of% (zaa q95c0.eq_1) := zaa rfl
def q95c1 : zab := .seq (.block 1 (.seq (.ops [oM 11 27 7 9 0,oC 12 9 11 9,oB 6 12 9]) (.seq (.ops [oA 13 1 54,oA 14 6 9,oAA 15 13 14 9 4,oS 16 4 15 4]) (.cond (.tmp 16) (.seq (.ops [oE 4 4]) (.ret)) (.skip))))) (q95c0)
@[simp] theorem yse : type_of% (zaa q95c1.eq_1) := zaa rfl
def q95l0 : zab := .seq (.ops [oI 10 3 9 8 3 0]) (.seq (.cond (.tmp 10) (.skip) (.exit 0)) (q95c1))
@[simp] theorem ysf : type_of% (zaa q95l0.eq_1) := zaa rfl
def q95c2 : zab := .seq (.ops [oY 4 4]) (.ret)
@[simp] theorem ysg : type_of% (zaa q95c2.eq_1) := zaa rfl
@[simp] def q95 : QFn := ⟨18,[(.tmp 4,4)],.seq (.ops [oE 4 4]) (.seq (.seq (.ops [oA 7 0 27,oF 8 7 27 3,oZ 9 0 3]) (.block 0 (.loop q95l0))) (q95c2))⟩
theorem Cv95 : zan Tryz.f95 = some q95 := by kernel_rfl
abbrev Fn96 : FuncId := 96
@[simp] def q96 : QFn := ⟨9,[(.tmp 2,4)],.seq (.ops [oE 2 4]) (.seq (.ops [oA 3 0 9,⟨some 4,.binOp .neq 9 (.tmp 3) (.const (.string { data := #[] })) 9,4,none⟩,oA 5 4 4,oQ 6 0 9 5,oAN 7 150 6 9 4 5,oU 8 5 7 4,oB 2 8 4]) (.ret))⟩
theorem Cv96 : zan Tryz.f96 = some q96 := by kernel_rfl
abbrev Fn97 : FuncId := 97
@[simp] def q97 : QFn := ⟨5,[(.tmp 2,9)],.seq (.ops [oN 1 33 0 0,oO 2 9]) (.seq (.ops [oD 3 33 1 0 0,oC 4 9 3 9,oB 2 4 9]) (.ret))⟩
theorem Cv97 : zan Tryz.f97 = some q97 := by kernel_rfl
abbrev Fn98 : FuncId := 98
@[simp] def q98 : QFn := ⟨5,[(.tmp 2,9)],.seq (.ops [oN 1 97 0 0,oO 2 9]) (.seq (.ops [oD 3 97 1 0 0,oC 4 9 3 9,oB 2 4 9]) (.ret))⟩
theorem Cv98 : zan Tryz.f98 = some q98 := by kernel_rfl
abbrev Fn99 : FuncId := 99
@[simp] def q99 : QFn := ⟨5,[(.tmp 2,9)],.seq (.ops [oN 1 35 0 0,oO 2 9]) (.seq (.ops [oD 3 35 1 0 0,oC 4 9 3 9,oB 2 4 9]) (.ret))⟩
theorem Cv99 : zan Tryz.f99 = some q99 := by kernel_rfl
abbrev ydy : FuncId := 100
def q100c0 : zab := .ops [oA 23 7 27,oA 24 1 123,oC 25 33 9 33,oAA 26 24 25 33 9,oAF 27 27 1 0 26 27,oAC 28 23 27 27 27 27,oB 7 28 27]
@[simp] theorem ydz : type_of% (zaa q100c0.eq_1) := zaa rfl
def q100c1 : zab := .ops [oH 29 3 14 1 3 3,oA 14 29 3]
@[simp] theorem yd0 : type_of% (zaa q100c1.eq_1) := zaa rfl
def q100c2 : zab := .seq (.block 1 (.seq (.ops [oM 16 23 12 14 0,oC 17 33 16 33,oR 9 33 0,oL 33 9 17 0]) (.seq (.seq (.ops [oA 18 7 27,oA 19 1 123,oC 20 33 9 33,oAA 21 19 20 33 9,oV 22 152 18 21 27 9 4]) (.cond (.tmp 22) (.seq (.ops [oY 6 4]) (.ret)) (.skip))) (q100c0)))) (q100c1)
@[simp] theorem yd1 : type_of% (zaa q100c2.eq_1) := zaa rfl
def q100l0 : zab := .seq (.ops [oI 15 3 14 13 3 0]) (.seq (.cond (.tmp 15) (.skip) (.exit 0)) (q100c2))
@[simp] theorem yd2 : type_of% (zaa q100l0.eq_1) := zaa rfl
def q100c3 : zab := .seq (.ops [oE 6 4]) (.ret)
@[simp] theorem yd3 : type_of% (zaa q100c3.eq_1) := zaa rfl
@[simp] def q100 : QFn := ⟨30,[(.tmp 6,4)],.seq (.ops [oE 6 4]) (.seq (.ops [oA 10 2 27,oJ 11 151 10 27 27,oB 7 11 27]) (.seq (.seq (.ops [oA 12 0 23,oF 13 12 23 3,oZ 14 0 3]) (.block 0 (.loop q100l0))) (q100c3)))⟩
theorem yd4 : zan Tryz.f100 = some q100 := by kernel_rfl
abbrev yd5 : FuncId := 101
def q101c0 : zab := .ops [oA 23 7 27,oA 24 1 95,oC 25 94 9 94,oAA 26 24 25 94 9,oAF 27 27 1 0 26 27,oAC 28 23 27 27 27 27,oB 7 28 27]
@[simp] theorem yd6 : type_of% (zaa q101c0.eq_1) := zaa rfl
def q101c1 : zab := .ops [oH 29 3 14 1 3 3,oA 14 29 3]
@[simp] theorem yd7 : type_of% (zaa q101c1.eq_1) := zaa rfl
def q101c2 : zab := .seq (.block 1 (.seq (.ops [oM 16 24 12 14 0,oC 17 94 16 94,oR 9 94 0,oL 94 9 17 0]) (.seq (.seq (.ops [oA 18 7 27,oA 19 1 95,oC 20 94 9 94,oAA 21 19 20 94 9,oV 22 152 18 21 27 9 4]) (.cond (.tmp 22) (.seq (.ops [oY 6 4]) (.ret)) (.skip))) (q101c0)))) (q101c1)
@[simp] theorem yd8 : type_of% (zaa q101c2.eq_1) := zaa rfl
def q101l0 : zab := .seq (.ops [oI 15 3 14 13 3 0]) (.seq (.cond (.tmp 15) (.skip) (.exit 0)) (q101c2))
@[simp] theorem yd9 : type_of% (zaa q101l0.eq_1) := zaa rfl
def q101c3 : zab := .seq (.ops [oE 6 4]) (.ret)
@[simp] theorem yea : type_of% (zaa q101c3.eq_1) := zaa rfl
@[simp] def q101 : QFn := ⟨30,[(.tmp 6,4)],.seq (.ops [oE 6 4]) (.seq (.ops [oA 10 2 27,oJ 11 151 10 27 27,oB 7 11 27]) (.seq (.seq (.ops [oA 12 0 24,oF 13 12 24 3,oZ 14 0 3]) (.block 0 (.loop q101l0))) (q101c3)))⟩
theorem yeb : zan Tryz.f101 = some q101 := by kernel_rfl
abbrev yec : FuncId := 102
@[simp] def q102 : QFn := ⟨5,[(.tmp 2,9)],.seq (.ops [oN 1 94 0 0,oO 2 9]) (.seq (.ops [oD 3 94 1 0 0,oC 4 9 3 9,oB 2 4 9]) (.ret))⟩
theorem yed : zan Tryz.f102 = some q102 := by kernel_rfl
abbrev yee : FuncId := 103
def q103c0 : zab := .ops [oA 23 7 27,oA 24 1 124,oC 25 97 9 97,oAA 26 24 25 97 9,oAF 27 27 1 0 26 27,oAC 28 23 27 27 27 27,oB 7 28 27]
@[simp] theorem yef : type_of% (zaa q103c0.eq_1) := zaa rfl
def q103c1 : zab := .ops [oH 29 3 14 1 3 3,oA 14 29 3]
@[simp] theorem yeg : type_of% (zaa q103c1.eq_1) := zaa rfl
def q103c2 : zab := .seq (.block 1 (.seq (.ops [oM 16 25 12 14 0,oC 17 97 16 97,oR 9 97 0,oL 97 9 17 0]) (.seq (.seq (.ops [oA 18 7 27,oA 19 1 124,oC 20 97 9 97,oAA 21 19 20 97 9,oV 22 152 18 21 27 9 4]) (.cond (.tmp 22) (.seq (.ops [oY 6 4]) (.ret)) (.skip))) (q103c0)))) (q103c1)
@[simp] theorem yeh : type_of% (zaa q103c2.eq_1) := zaa rfl
def q103l0 : zab := .seq (.ops [oI 15 3 14 13 3 0]) (.seq (.cond (.tmp 15) (.skip) (.exit 0)) (q103c2))
@[simp] theorem yei : type_of% (zaa q103l0.eq_1) := zaa rfl
def q103c3 : zab := .seq (.ops [oE 6 4]) (.ret)
@[simp] theorem yej : type_of% (zaa q103c3.eq_1) := zaa rfl
@[simp] def q103 : QFn := ⟨30,[(.tmp 6,4)],.seq (.ops [oE 6 4]) (.seq (.ops [oA 10 2 27,oJ 11 151 10 27 27,oB 7 11 27]) (.seq (.seq (.ops [oA 12 0 25,oF 13 12 25 3,oZ 14 0 3]) (.block 0 (.loop q103l0))) (q103c3)))⟩
theorem yek : zan Tryz.f103 = some q103 := by kernel_rfl
abbrev yel : FuncId := 104
def q104c0 : zab := .ops [oA 23 7 27,oA 24 1 125,oC 25 35 9 35,oAA 26 24 25 35 9,oAF 27 27 1 0 26 27,oAC 28 23 27 27 27 27,oB 7 28 27]
@[simp] theorem yem : type_of% (zaa q104c0.eq_1) := zaa rfl
def q104c1 : zab := .ops [oH 29 3 14 1 3 3,oA 14 29 3]
@[simp] theorem yen : type_of% (zaa q104c1.eq_1) := zaa rfl
def q104c2 : zab := .seq (.block 1 (.seq (.ops [oM 16 26 12 14 0,oC 17 35 16 35,oR 9 35 0,oL 35 9 17 0]) (.seq (.seq (.ops [oA 18 7 27,oA 19 1 125,oC 20 35 9 35,oAA 21 19 20 35 9,oV 22 152 18 21 27 9 4]) (.cond (.tmp 22) (.seq (.ops [oY 6 4]) (.ret)) (.skip))) (q104c0)))) (q104c1)
@[simp] theorem yeo : type_of% (zaa q104c2.eq_1) := zaa rfl
def q104l0 : zab := .seq (.ops [oI 15 3 14 13 3 0]) (.seq (.cond (.tmp 15) (.skip) (.exit 0)) (q104c2))
@[simp] theorem yep : type_of% (zaa q104l0.eq_1) := zaa rfl
def q104c3 : zab := .seq (.ops [oE 6 4]) (.ret)
@[simp] theorem yeq : type_of% (zaa q104c3.eq_1) := zaa rfl
@[simp] def q104 : QFn := ⟨30,[(.tmp 6,4)],.seq (.ops [oE 6 4]) (.seq (.ops [oA 10 2 27,oJ 11 151 10 27 27,oB 7 11 27]) (.seq (.seq (.ops [oA 12 0 26,oF 13 12 26 3,oZ 14 0 3]) (.block 0 (.loop q104l0))) (q104c3)))⟩
theorem yer : zan Tryz.f104 = some q104 := by kernel_rfl
abbrev yes : FuncId := 105
@[simp] def q105 : QFn := ⟨13,[(.tmp 2,23)],.seq (.ops [oN 1 29 0 0,oAB 2 23]) (.seq (.ops [oD 3 29 1 0 0,oC 4 9 3 9,⟨some 5,.build 33 #[(0,.const (.string { data := #[110,97,109,101] })),(1,.tmp 4)],33,none⟩,oD 6 29 1 1 0,oC 7 9 6 9,⟨some 8,.build 33 #[(0,.const (.string { data := #[118,101,114,115,105,111,110] })),(1,.tmp 7)],33,none⟩,⟨some 9,.buildSlice 23 2 #[(0,.tmp 5),(1,.tmp 8)],23,none⟩,oD 10 29 1 2 0,oC 11 23 10 23,oAC 12 9 11 23 23 23,oB 2 12 23]) (.ret))⟩
theorem yet : zan Tryz.f105 = some q105 := by kernel_rfl
abbrev z99 : FuncId := 106
def q106c0 : zab := .seq (.ops [oA 34 8 9,oB 4 34 9,oG 5 0 3]) (.ret)
@[simp] theorem yeu : type_of% (zaa q106c0.eq_1) := zaa rfl
def q106c1 : zab := .seq (.ops [oA 23 0 23,⟨some 24,.build 172 #[(0,.tmp 23)],172,none⟩,oR 7 172 0,oL 172 7 24 0]) (.seq (.ops [oA 26 1 9,oV 27 155 7 26 172 9 173,oA 25 27 173,oT 28 25 0 9,oT 29 25 1 88,oB 8 28 9,oB 9 29 88]) (.seq (.seq (.ops [oA 30 9 88,⟨some 31,.binOp .neq 88 (.tmp 30) (.const .nilIface) 88,4,none⟩]) (.cond (.tmp 31) (.seq (.ops [oA 32 9 88,oJ 33 156 32 88 3,oO 4 9,oB 5 33 3]) (.ret)) (.skip))) (q106c0)))
@[simp] theorem yev : type_of% (zaa q106c1.eq_1) := zaa rfl
@[simp] def q106 : QFn := ⟨35,[(.tmp 4,9),(.tmp 5,3)],.seq (.ops [oO 4 9,oG 5 0 3]) (.seq (.ops [⟨some 6,.assign (.func 153),115,none⟩]) (.seq (.seq (.ops [oA 10 0 23,oF 11 10 23 3,oAP 12 3 11 8 3 4,oA 13 12 4,oK 14 0 23 13,oK 15 6 115 13,⟨some 16,.call { callee := .value (.func 154),args := #[.tmp 14,.tmp 15],argTypes := #[23,115] },4,some (13,false)⟩,oP 17 13 16 4,oA 18 17 4,oK 19 1 9 18,oAQ 20 96 19 9 4 18,⟨some 21,.unOp .not 4 (.tmp 20),4,some (18,false)⟩,oP 22 18 21 4]) (.cond (.tmp 22) (.seq (.ops [oO 4 9,oG 5 1 3]) (.ret)) (.skip))) (q106c1)))⟩
theorem yew : zan Tryz.f106 = some q106 := by kernel_rfl
abbrev yaa : FuncId := 107
def q107c0 : zab := .ops [oA 8 3 3,oH 9 3 8 1 3 3,oB 3 9 3]
@[simp] theorem yex : type_of% (zaa q107c0.eq_1) := zaa rfl
def q107c1 : zab := .seq (.block 1 (.seq (.ops [oA 10 0 9,oA 11 3 3,oAH 12 9 10 11 5,oJ 13 157 12 5 4,oS 14 4 13 4]) (.cond (.tmp 14) (.seq (.ops [oE 2 4]) (.ret)) (.skip)))) (q107c0)
@[simp] theorem yey : type_of% (zaa q107c1.eq_1) := zaa rfl
def q107l0 : zab := .seq (.seq (.ops [oA 4 3 3,oA 5 0 9,oF 6 5 9 3,oI 7 3 4 6 3 4]) (.cond (.tmp 7) (.skip) (.exit 0))) (q107c1)
@[simp] theorem yez : type_of% (zaa q107l0.eq_1) := zaa rfl
def q107c2 : zab := .seq (.ops [oA 15 0 9,oF 16 15 9 3,oAW 17 158 16 1 10 3 3 3 4,oA 18 17 4,oQ 19 0 9 18,⟨some 20,.binOp .neq 9 (.tmp 19) (.const (.string { data := #[46] })) 9,4,some (18,true)⟩,oU 21 18 20 4,oA 22 21 4,oQ 23 0 9 22,⟨some 24,.binOp .neq 9 (.tmp 23) (.const (.string { data := #[46,46] })) 9,4,some (22,true)⟩,oU 25 22 24 4,oB 2 25 4]) (.ret)
@[simp] theorem ye0 : type_of% (zaa q107c2.eq_1) := zaa rfl
@[simp] def q107 : QFn := ⟨26,[(.tmp 2,4)],.seq (.ops [oE 2 4]) (.seq (.seq (.ops [oG 3 0 3]) (.block 0 (.loop q107l0))) (q107c2))⟩
theorem ye1 : zan Tryz.f107 = some q107 := by kernel_rfl
abbrev yab : FuncId := 108
def q108c0 : zab := .ops [oA 8 3 3,oH 9 3 8 1 3 3,oB 3 9 3]
@[simp] theorem ye2 : type_of% (zaa q108c0.eq_1) := zaa rfl
def q108c1 : zab := .seq (.block 1 (.seq (.ops [oA 10 0 9,oA 11 3 3,oAH 12 9 10 11 5,⟨some 13,.binOp .geq 5 (.tmp 12) (.const (.int .u8 48)) 5,4,none⟩,oA 14 13 4,oQ 15 0 9 14,oQ 16 3 3 14,⟨some 17,.index 9 (.tmp 15) (.tmp 16),5,some (14,true)⟩,oAT 18 5 17 57 5 4 14,oU 19 14 18 4,oA 20 19 4,oK 21 0 9 20,oK 22 3 3 20,oAO 23 9 21 22 5 20,⟨some 24,.binOp .geq 5 (.tmp 23) (.const (.int .u8 97)) 5,4,some (20,false)⟩,oK 25 24 4 20,oQ 26 0 9 25,oQ 27 3 3 25,⟨some 28,.index 9 (.tmp 26) (.tmp 27),5,some (25,true)⟩,oAT 29 5 28 102 5 4 25,⟨some 30,.pick (.tmp 25) (.tmp 29) (.const (.bool false)),4,some (20,false)⟩,oP 31 20 30 4,oS 32 4 31 4]) (.cond (.tmp 32) (.seq (.ops [oE 2 4]) (.ret)) (.skip)))) (q108c0)
@[simp] theorem ye3 : type_of% (zaa q108c1.eq_1) := zaa rfl
def q108l0 : zab := .seq (.seq (.ops [oA 4 3 3,oA 5 0 9,oF 6 5 9 3,oI 7 3 4 6 3 4]) (.cond (.tmp 7) (.skip) (.exit 0))) (q108c1)
@[simp] theorem ye4 : type_of% (zaa q108l0.eq_1) := zaa rfl
def q108c2 : zab := .seq (.ops [oA 33 0 9,oF 34 33 9 3,oAM 35 3 34 16 3 4,oB 2 35 4]) (.ret)
@[simp] theorem ye5 : type_of% (zaa q108c2.eq_1) := zaa rfl
@[simp] def q108 : QFn := ⟨36,[(.tmp 2,4)],.seq (.ops [oE 2 4]) (.seq (.seq (.ops [oG 3 0 3]) (.block 0 (.loop q108l0))) (q108c2))⟩
theorem ye6 : zan Tryz.f108 = some q108 := by kernel_rfl
abbrev yac : FuncId := 109
def q109c0 : zab := .ops [oA 9 3 3,oH 10 3 9 1 3 3,oB 3 10 3]
@[simp] theorem ye7 : type_of% (zaa q109c0.eq_1) := zaa rfl
def q109c1 : zab := .seq (.block 1 (.seq (.ops [oA 11 0 9,oA 12 3 3,oAH 13 9 11 12 5,⟨some 14,.binOp .geq 5 (.tmp 13) (.const (.int .u8 97)) 5,4,none⟩,oA 15 14 4,oQ 16 0 9 15,oQ 17 3 3 15,⟨some 18,.index 9 (.tmp 16) (.tmp 17),5,some (15,true)⟩,oAT 19 5 18 122 5 4 15,oU 20 15 19 4,oB 4 20 4]) (.seq (.ops [oA 21 4 4,oS 22 4 21 4,oA 23 22 4,oQ 24 3 3 23,⟨some 25,.binOp .eql 3 (.tmp 24) (.const (.int .i64 0)) 3,4,some (23,true)⟩,oQ 26 25 4 23,oK 27 0 9 26,oK 28 3 3 26,oAO 29 9 27 28 5 26,⟨some 30,.binOp .lss 5 (.tmp 29) (.const (.int .u8 48)) 5,4,some (26,false)⟩,⟨some 31,.pick (.tmp 26) (.const (.bool true)) (.tmp 30),4,some (23,true)⟩,oQ 32 31 4 23,oK 33 0 9 32,oK 34 3 3 32,oAO 35 9 33 34 5 32,oAS 36 5 35 57 5 4 32,⟨some 37,.pick (.tmp 32) (.const (.bool true)) (.tmp 36),4,some (23,true)⟩,oU 38 23 37 4]) (.cond (.tmp 38) (.seq (.ops [oE 2 4]) (.ret)) (.skip))))) (q109c0)
@[simp] theorem ye8 : type_of% (zaa q109c1.eq_1) := zaa rfl
def q109l0 : zab := .seq (.seq (.ops [oA 5 3 3,oA 6 0 9,oF 7 6 9 3,oI 8 3 5 7 3 4]) (.cond (.tmp 8) (.skip) (.exit 0))) (q109c1)
@[simp] theorem ye9 : type_of% (zaa q109l0.eq_1) := zaa rfl
def q109c2 : zab := .seq (.ops [oA 39 0 9,oF 40 39 9 3,oAW 41 158 40 1 10 3 3 3 4,oB 2 41 4]) (.ret)
@[simp] theorem yfa : type_of% (zaa q109c2.eq_1) := zaa rfl
@[simp] def q109 : QFn := ⟨42,[(.tmp 2,4)],.seq (.ops [oE 2 4]) (.seq (.seq (.ops [oG 3 0 3]) (.block 0 (.loop q109l0))) (q109c2))⟩
theorem yfb : zan Tryz.f109 = some q109 := by kernel_rfl
abbrev yad : FuncId := 110
def q110c0 : zab := .ops [oA 14 4 3,oH 15 3 14 1 3 3,oB 4 15 3]
@[simp] theorem yfc : type_of% (zaa q110c0.eq_1) := zaa rfl
def q110c1 : zab := .seq (.block 1 (.seq (.ops [oA 16 3 27,oA 17 4 3,oM 18 27 16 17 0,oC 19 9 18 9,oJ 20 159 19 9 4,oS 21 4 20 4]) (.cond (.tmp 21) (.seq (.ops [oE 2 4]) (.ret)) (.skip)))) (q110c0)
@[simp] theorem yfd : type_of% (zaa q110c1.eq_1) := zaa rfl
def q110l0 : zab := .seq (.seq (.ops [oA 10 4 3,oA 11 3 27,oF 12 11 27 3,oI 13 3 10 12 3 4]) (.cond (.tmp 13) (.skip) (.exit 0))) (q110c1)
@[simp] theorem yfe : type_of% (zaa q110l0.eq_1) := zaa rfl
def q110c2 : zab := .seq (.ops [oA 22 3 27,oF 23 22 27 3,⟨some 24,.binOp .leq 3 (.tmp 23) (.const (.int .i64 5)) 3,4,none⟩,oA 25 24 4,oQ 26 0 9 25,oAU 27 26 9 3 25,⟨some 28,.binOp .leq 3 (.tmp 27) (.const (.int .i64 40)) 3,4,some (25,true)⟩,oU 29 25 28 4,oB 2 29 4]) (.ret)
@[simp] theorem yff : type_of% (zaa q110c2.eq_1) := zaa rfl
@[simp] def q110 : QFn := ⟨30,[(.tmp 2,4)],.seq (.ops [oE 2 4]) (.seq (.ops [oA 5 0 9,oA 6 0 9,oF 7 6 9 3,oH 8 3 7 1 3 3,⟨some 9,.call { callee := .value (.func 67),args := #[.tmp 5,.const (.int .u8 47),.tmp 8],argTypes := #[9,5,3] },27,none⟩,oB 3 9 27]) (.seq (.seq (.ops [oG 4 0 3]) (.block 0 (.loop q110l0))) (q110c2)))⟩
theorem yfg : zan Tryz.f110 = some q110 := by kernel_rfl
abbrev yae : FuncId := 111
def q111c0 : zab := .ops [oA 8 3 3,oH 9 3 8 1 3 3,oB 3 9 3]
@[simp] theorem yfh : type_of% (zaa q111c0.eq_1) := zaa rfl
def q111c1 : zab := .seq (.block 1 (.seq (.ops [oA 10 0 9,oA 11 3 3,oAH 12 9 10 11 5,⟨some 13,.convert 5 3 (.tmp 12),3,none⟩,oAW 14 158 13 32 126 3 3 3 4,oS 15 4 14 4]) (.cond (.tmp 15) (.seq (.ops [oE 2 4]) (.ret)) (.skip)))) (q111c0)
@[simp] theorem yfi : type_of% (zaa q111c1.eq_1) := zaa rfl
def q111l0 : zab := .seq (.seq (.ops [oA 4 3 3,oA 5 0 9,oF 6 5 9 3,oI 7 3 4 6 3 4]) (.cond (.tmp 7) (.skip) (.exit 0))) (q111c1)
@[simp] theorem yfj : type_of% (zaa q111l0.eq_1) := zaa rfl
def q111c2 : zab := .seq (.ops [oA 16 0 9,oF 17 16 9 3,oAW 18 158 17 1 80 3 3 3 4,oB 2 18 4]) (.ret)
@[simp] theorem yfk : type_of% (zaa q111c2.eq_1) := zaa rfl
@[simp] def q111 : QFn := ⟨19,[(.tmp 2,4)],.seq (.ops [oE 2 4]) (.seq (.seq (.ops [oG 3 0 3]) (.block 0 (.loop q111l0))) (q111c2))⟩
theorem yfl : zan Tryz.f111 = some q111 := by kernel_rfl
abbrev yfm : FuncId := 112
@[simp] def q112 : QFn := ⟨11,[(.tmp 2,4)],.seq (.ops [oE 2 4]) (.seq (.ops [oA 6 0 9,oJ 7 160 6 9 178,oA 5 7 178,oT 8 5 0 166,oT 9 5 1 4,oB 3 8 166,oB 4 9 4]) (.seq (.ops [oA 10 4 4,oB 2 10 4]) (.ret)))⟩
theorem yfn : zan Tryz.f112 = some q112 := by kernel_rfl
abbrev yfo : FuncId := 113
def q113c0 : zab := .ops [oA 8 3 3,oH 9 3 8 1 3 3,oB 3 9 3]
@[simp] theorem yfp : type_of% (zaa q113c0.eq_1) := zaa rfl
def q113c1 : zab := .seq (.block 1 (.seq (.ops [oA 10 0 23,oA 11 3 3,oM 12 23 10 11 0,oD 13 33 12 0 0,oC 14 9 13 9,oJ 15 109 14 9 4,oS 16 4 15 4,oA 17 16 4,oK 18 0 23 17,oK 19 3 3 17,⟨some 20,.indexAddr 23 (.tmp 18) (.tmp 19),0,some (17,false)⟩,oAL 21 33 20 1 0 17,oAJ 22 9 21 9 17,oAQ 23 111 22 9 4 17,⟨some 24,.unOp .not 4 (.tmp 23),4,some (17,false)⟩,oP 25 17 24 4]) (.cond (.tmp 25) (.seq (.ops [oE 2 4]) (.ret)) (.skip)))) (q113c0)
@[simp] theorem yfq : type_of% (zaa q113c1.eq_1) := zaa rfl
def q113l0 : zab := .seq (.seq (.ops [oA 4 3 3,oA 5 0 23,oF 6 5 23 3,oI 7 3 4 6 3 4]) (.cond (.tmp 7) (.skip) (.exit 0))) (q113c1)
@[simp] theorem yfr : type_of% (zaa q113l0.eq_1) := zaa rfl
def q113c2 : zab := .seq (.ops [oA 26 0 23,oF 27 26 23 3,⟨some 28,.binOp .leq 3 (.tmp 27) (.const (.int .i64 8)) 3,4,none⟩,oB 2 28 4]) (.ret)
@[simp] theorem yfs : type_of% (zaa q113c2.eq_1) := zaa rfl
@[simp] def q113 : QFn := ⟨29,[(.tmp 2,4)],.seq (.ops [oE 2 4]) (.seq (.seq (.ops [oG 3 0 3]) (.block 0 (.loop q113l0))) (q113c2))⟩
theorem yft : zan Tryz.f113 = some q113 := by kernel_rfl
abbrev yfu : FuncId := 114
def q114c0 : zab := .ops [oA 8 3 3,oH 9 3 8 1 3 3,oB 3 9 3]
@[simp] theorem yfv : type_of% (zaa q114c0.eq_1) := zaa rfl
def q114c1 : zab := .seq (.block 1 (.seq (.ops [oA 10 0 24,oA 11 3 3,oM 12 24 10 11 0,oC 13 94 12 94,oJ 14 161 13 94 4,oS 15 4 14 4]) (.cond (.tmp 15) (.seq (.ops [oE 2 4]) (.ret)) (.skip)))) (q114c0)
@[simp] theorem yfw : type_of% (zaa q114c1.eq_1) := zaa rfl
def q114l0 : zab := .seq (.seq (.ops [oA 4 3 3,oA 5 0 24,oF 6 5 24 3,oI 7 3 4 6 3 4]) (.cond (.tmp 7) (.skip) (.exit 0))) (q114c1)
@[simp] theorem yfx : type_of% (zaa q114l0.eq_1) := zaa rfl
def q114c2 : zab := .seq (.ops [oA 16 0 24,oF 17 16 24 3,⟨some 18,.binOp .leq 3 (.tmp 17) (.const (.int .i64 6)) 3,4,none⟩,oB 2 18 4]) (.ret)
@[simp] theorem yfy : type_of% (zaa q114c2.eq_1) := zaa rfl
@[simp] def q114 : QFn := ⟨19,[(.tmp 2,4)],.seq (.ops [oE 2 4]) (.seq (.seq (.ops [oG 3 0 3]) (.block 0 (.loop q114l0))) (q114c2))⟩
theorem yfz : zan Tryz.f114 = some q114 := by kernel_rfl
abbrev yf0 : FuncId := 115
def q115c0 : zab := .ops [oA 14 4 3,oH 15 3 14 1 3 3,oB 4 15 3]
@[simp] theorem yf1 : type_of% (zaa q115c0.eq_1) := zaa rfl
def q115c1 : zab := .seq (.block 3 (.seq (.draw [] [⟨some 16,.move (.tmp 0),27,none⟩,⟨some 17,.move (.tmp 4),3,none⟩,⟨some 18,.indexAddr 27 (.tmp 16) (.tmp 17),0,none⟩,⟨some 19,.load 9 (.tmp 18),9,none⟩,⟨some 20,.move (.tmp 0),27,none⟩,⟨some 21,.move (.tmp 3),3,none⟩,⟨some 22,.indexAddr 27 (.tmp 20) (.tmp 21),0,none⟩,⟨some 23,.load 9 (.tmp 22),9,none⟩] [⟨some 24,.binOp .eql 9 (.tmp 19) (.tmp 23) 9,4,none⟩]) (.cond (.tmp 24) (.seq (.ops [oY 2 4]) (.ret)) (.skip)))) (q115c0)
@[simp] theorem yf2 : type_of% (zaa q115c1.eq_1) := zaa rfl
def q115l0 : zab := .seq (.seq (.ops [oA 11 4 3,oA 12 3 3,oI 13 3 11 12 3 4]) (.cond (.tmp 13) (.skip) (.exit 2))) (q115c1)
@[simp] theorem yf3 : type_of% (zaa q115l0.eq_1) := zaa rfl
def q115c2 : zab := .ops [oA 9 3 3,oH 10 3 9 1 3 3,oB 3 10 3]
@[simp] theorem yf4 : type_of% (zaa q115c2.eq_1) := zaa rfl
def q115c3 : zab := .seq (.block 1 (.seq (.ops [oG 4 0 3]) (.block 2 (.loop q115l0)))) (q115c2)
@[simp] theorem yf5 : type_of% (zaa q115c3.eq_1) := zaa rfl
def q115l1 : zab := .seq (.seq (.ops [oA 5 3 3,oA 6 0 27,oF 7 6 27 3,oI 8 3 5 7 3 4]) (.cond (.tmp 8) (.skip) (.exit 0))) (q115c3)
@[simp] theorem yf6 : type_of% (zaa q115l1.eq_1) := zaa rfl
def q115c4 : zab := .seq (.ops [oE 2 4]) (.ret)
@[simp] theorem yf7 : type_of% (zaa q115c4.eq_1) := zaa rfl
@[simp] def q115 : QFn := ⟨25,[(.tmp 2,4)],.seq (.ops [oE 2 4]) (.seq (.seq (.ops [oG 3 0 3]) (.block 0 (.loop q115l1))) (q115c4))⟩
theorem yf8 : zan Tryz.f115 = some q115 := by kernel_rfl
abbrev yf9 : FuncId := 116
def q116c0 : zab := .ops [oA 10 5 3,oH 11 3 10 1 3 3,oB 5 11 3]
@[simp] theorem yga : type_of% (zaa q116c0.eq_1) := zaa rfl
def q116c1 : zab := .seq (.block 1 (.seq (.ops [oA 12 0 9,oA 13 5 3,oAH 14 9 12 13 5,⟨some 15,.binOp .eql 5 (.tmp 14) (.const (.int .u8 125)) 5,4,none⟩]) (.cond (.tmp 15) (.seq (.seq (.ice [0,0,0]) (.draw [] [⟨some 16,.move (.tmp 0),9,none⟩,⟨some 17,.move (.tmp 5),3,none⟩,⟨some 18,.slice 9 (.tmp 16) (some (.const (.int .i64 2))) (some (.tmp 17)) none,9,none⟩,⟨some 19,.move (.tmp 0),9,none⟩,⟨some 20,.move (.tmp 5),3,none⟩,⟨some 23,.move (.tmp 0),9,none⟩,⟨some 24,.move (.tmp 5),3,none⟩,⟨some 25,.slice 9 (.tmp 23) (some (.const (.int .i64 2))) (some (.tmp 24)) none,9,none⟩,⟨some 21,.binOp .add 3 (.tmp 20) (.const (.int .i64 1)) 3,3,none⟩,⟨some 22,.slice 9 (.tmp 19) (some (.tmp 21)) none none,9,none⟩,⟨some 26,.call { callee := .value (.func 109),args := #[.tmp 25],argTypes := #[9] },4,none⟩,⟨some 2,.assign (.tmp 18),9,none⟩] [⟨some 3,.assign (.tmp 22),9,none⟩,⟨some 4,.assign (.tmp 26),4,none⟩])) (.ret)) (.skip)))) (q116c0)
@[simp] theorem ygb : type_of% (zaa q116c1.eq_1) := zaa rfl
def q116l0 : zab := .seq (.seq (.ops [oA 6 5 3,oA 7 0 9,oF 8 7 9 3,oI 9 3 6 8 3 4]) (.cond (.tmp 9) (.skip) (.exit 0))) (q116c1)
@[simp] theorem ygc : type_of% (zaa q116l0.eq_1) := zaa rfl
def q116c2 : zab := .seq (.ops [oO 2 9,oO 3 9,oE 4 4]) (.ret)
@[simp] theorem ygd : type_of% (zaa q116c2.eq_1) := zaa rfl
@[simp] def q116 : QFn := ⟨27,[(.tmp 2,9),(.tmp 3,9),(.tmp 4,4)],.seq (.ops [oO 2 9,oO 3 9,oE 4 4]) (.seq (.seq (.ops [oG 5 2 3]) (.block 0 (.loop q116l0))) (q116c2))⟩
theorem yge : zan Tryz.f116 = some q116 := by kernel_rfl
abbrev ygf : FuncId := 117
def q117c0 : zab := .ops [oA 10 5 3,oH 11 3 10 1 3 3,oB 5 11 3]
@[simp] theorem ygg : type_of% (zaa q117c0.eq_1) := zaa rfl
def q117c1 : zab := .seq (.block 1 (.seq (.ops [oA 12 0 23,oA 13 5 3,oM 14 23 12 13 0,oD 15 33 14 0 0,oC 16 9 15 9,oA 17 1 9,⟨some 18,.binOp .eql 9 (.tmp 16) (.tmp 17) 9,4,none⟩]) (.cond (.tmp 18) (.seq (.ops [oA 19 5 3,oB 4 19 3]) (.ret)) (.skip)))) (q117c0)
@[simp] theorem ygh : type_of% (zaa q117c1.eq_1) := zaa rfl
def q117l0 : zab := .seq (.seq (.ops [oA 6 5 3,oA 7 0 23,oF 8 7 23 3,oI 9 3 6 8 3 4]) (.cond (.tmp 9) (.skip) (.exit 0))) (q117c1)
@[simp] theorem ygi : type_of% (zaa q117l0.eq_1) := zaa rfl
def q117c2 : zab := .seq (.ops [oX 4 3]) (.ret)
@[simp] theorem ygj : type_of% (zaa q117c2.eq_1) := zaa rfl
@[simp] def q117 : QFn := ⟨20,[(.tmp 4,3)],.seq (.ops [oG 4 0 3]) (.seq (.seq (.ops [oG 5 0 3]) (.block 0 (.loop q117l0))) (q117c2))⟩
theorem ygk : zan Tryz.f117 = some q117 := by kernel_rfl
abbrev ygl : FuncId := 118
def q118c0 : zab := .seq (.ops [oA 19 1 3,oB 4 19 3]) (.ret)
@[simp] theorem ygm : type_of% (zaa q118c0.eq_1) := zaa rfl
def q118c1 : zab := .seq (.ops [oA 12 1 3,oD 13 138 2 1 0,oC 14 9 13 9,oF 15 14 9 3,oAI 16 3 12 15 3 3,oB 1 16 3]) (.seq (.seq (.ops [oA 17 1 3,oW 18 3 17 0 3 4]) (.cond (.tmp 18) (.seq (.ops [oX 4 3]) (.ret)) (.skip))) (q118c0))
@[simp] theorem ygn : type_of% (zaa q118c1.eq_1) := zaa rfl
@[simp] def q118 : QFn := ⟨20,[(.tmp 4,3)],.seq (.ops [oN 2 138 0 0,oG 4 0 3]) (.seq (.ops [oA 5 1 3,oD 6 138 2 0 0,oC 7 9 6 9,oF 8 7 9 3,oAI 9 3 5 8 3 3,oB 1 9 3]) (.seq (.seq (.ops [oA 10 1 3,oW 11 3 10 0 3 4]) (.cond (.tmp 11) (.seq (.ops [oX 4 3]) (.ret)) (.skip))) (q118c1)))⟩
theorem ygo : zan Tryz.f118 = some q118 := by kernel_rfl
abbrev ygp : FuncId := 119
def q119c0 : zab := .seq (.ops [oA 19 1 3,oB 4 19 3]) (.ret)
@[simp] theorem ygq : type_of% (zaa q119c0.eq_1) := zaa rfl
def q119c1 : zab := .seq (.ops [oA 12 1 3,oD 13 140 2 2 0,oC 14 9 13 9,oF 15 14 9 3,oAI 16 3 12 15 3 3,oB 1 16 3]) (.seq (.seq (.ops [oA 17 1 3,oW 18 3 17 0 3 4]) (.cond (.tmp 18) (.seq (.ops [oX 4 3]) (.ret)) (.skip))) (q119c0))
@[simp] theorem ygr : type_of% (zaa q119c1.eq_1) := zaa rfl
@[simp] def q119 : QFn := ⟨20,[(.tmp 4,3)],.seq (.ops [oN 2 140 0 0,oG 4 0 3]) (.seq (.ops [oA 5 1 3,oD 6 140 2 0 0,oC 7 9 6 9,oF 8 7 9 3,oAI 9 3 5 8 3 3,oB 1 9 3]) (.seq (.seq (.ops [oA 10 1 3,oW 11 3 10 0 3 4]) (.cond (.tmp 11) (.seq (.ops [oX 4 3]) (.ret)) (.skip))) (q119c1)))⟩
theorem ygs : zan Tryz.f119 = some q119 := by kernel_rfl
abbrev ygt : FuncId := 120
def q120c0 : zab := .seq (.ops [oA 19 1 3,oB 4 19 3]) (.ret)
@[simp] theorem ygu : type_of% (zaa q120c0.eq_1) := zaa rfl
def q120c1 : zab := .seq (.ops [oA 12 1 3,oD 13 142 2 1 0,oC 14 9 13 9,oF 15 14 9 3,oAI 16 3 12 15 3 3,oB 1 16 3]) (.seq (.seq (.ops [oA 17 1 3,oW 18 3 17 0 3 4]) (.cond (.tmp 18) (.seq (.ops [oX 4 3]) (.ret)) (.skip))) (q120c0))
@[simp] theorem ygv : type_of% (zaa q120c1.eq_1) := zaa rfl
@[simp] def q120 : QFn := ⟨20,[(.tmp 4,3)],.seq (.ops [oN 2 142 0 0,oG 4 0 3]) (.seq (.ops [oA 5 1 3,oD 6 142 2 0 0,oC 7 9 6 9,oF 8 7 9 3,oAI 9 3 5 8 3 3,oB 1 9 3]) (.seq (.seq (.ops [oA 10 1 3,oW 11 3 10 0 3 4]) (.cond (.tmp 11) (.seq (.ops [oX 4 3]) (.ret)) (.skip))) (q120c1)))⟩
theorem ygw : zan Tryz.f120 = some q120 := by kernel_rfl
abbrev ygx : FuncId := 121
def q121c0 : zab := .seq (.ops [oA 19 1 3,oB 4 19 3]) (.ret)
@[simp] theorem ygy : type_of% (zaa q121c0.eq_1) := zaa rfl
def q121c1 : zab := .seq (.ops [oA 12 1 3,oD 13 144 2 1 0,oC 14 9 13 9,oF 15 14 9 3,oAI 16 3 12 15 3 3,oB 1 16 3]) (.seq (.seq (.ops [oA 17 1 3,oW 18 3 17 0 3 4]) (.cond (.tmp 18) (.seq (.ops [oX 4 3]) (.ret)) (.skip))) (q121c0))
@[simp] theorem ygz : type_of% (zaa q121c1.eq_1) := zaa rfl
@[simp] def q121 : QFn := ⟨20,[(.tmp 4,3)],.seq (.ops [oN 2 144 0 0,oG 4 0 3]) (.seq (.ops [oA 5 1 3,oD 6 144 2 0 0,oC 7 9 6 9,oF 8 7 9 3,oAI 9 3 5 8 3 3,oB 1 9 3]) (.seq (.seq (.ops [oA 10 1 3,oW 11 3 10 0 3 4]) (.cond (.tmp 11) (.seq (.ops [oX 4 3]) (.ret)) (.skip))) (q121c1)))⟩
theorem yg0 : zan Tryz.f121 = some q121 := by kernel_rfl
abbrev yg1 : FuncId := 122
@[simp] def q122 : QFn := ⟨11,[(.cell 2 33,33)],.seq (.ops [oN 1 138 0 0,oR 2 33 0]) (.seq (.ops [oR 3 33 0]) (.seq (.ops [oD 4 138 1 0 0,oC 5 9 4 9,oD 6 33 3 0 0,oL 9 6 5 0]) (.seq (.ops [oD 7 138 1 1 0,oC 8 9 7 9,oD 9 33 3 1 0,oL 9 9 8 0]) (.seq (.ops [oC 10 33 3 33,oL 33 2 10 0]) (.ret)))))⟩
theorem yg2 : zan Tryz.f122 = some q122 := by kernel_rfl
abbrev yg3 : FuncId := 123
@[simp] def q123 : QFn := ⟨14,[(.cell 2 94,94)],.seq (.ops [oN 1 140 0 0,oR 2 94 0]) (.seq (.ops [oR 3 94 0]) (.seq (.ops [oD 4 140 1 0 0,oC 5 9 4 9,oD 6 94 3 0 0,oL 9 6 5 0]) (.seq (.ops [oD 7 140 1 1 0,oC 8 3 7 3,oD 9 94 3 1 0,oL 3 9 8 0]) (.seq (.ops [oD 10 140 1 2 0,oC 11 9 10 9,oD 12 94 3 2 0,oL 9 12 11 0]) (.seq (.ops [oC 13 94 3 94,oL 94 2 13 0]) (.ret))))))⟩
theorem yg4 : zan Tryz.f123 = some q123 := by kernel_rfl
abbrev yg5 : FuncId := 124
@[simp] def q124 : QFn := ⟨11,[(.cell 2 97,97)],.seq (.ops [oN 1 142 0 0,oR 2 97 0]) (.seq (.ops [oR 3 97 0]) (.seq (.ops [oD 4 142 1 0 0,oC 5 9 4 9,oD 6 97 3 0 0,oL 9 6 5 0]) (.seq (.ops [oD 7 142 1 1 0,oC 8 9 7 9,oD 9 97 3 1 0,oL 9 9 8 0]) (.seq (.ops [oC 10 97 3 97,oL 97 2 10 0]) (.ret)))))⟩
theorem yg6 : zan Tryz.f124 = some q124 := by kernel_rfl
abbrev yg7 : FuncId := 125
@[simp] def q125 : QFn := ⟨11,[(.cell 2 35,35)],.seq (.ops [oN 1 144 0 0,oR 2 35 0]) (.seq (.ops [oR 3 35 0]) (.seq (.ops [oD 4 144 1 0 0,oC 5 9 4 9,oD 6 35 3 0 0,oL 9 6 5 0]) (.seq (.ops [oD 7 144 1 1 0,oC 8 9 7 9,oD 9 35 3 1 0,oL 9 9 8 0]) (.seq (.ops [oC 10 35 3 35,oL 35 2 10 0]) (.ret)))))⟩
theorem yg8 : zan Tryz.f125 = some q125 := by kernel_rfl
abbrev yg9 : FuncId := 126
def q126c0 : zab := .seq (.ops [oY 4 4]) (.ret)
@[simp] theorem yha : type_of% (zaa q126c0.eq_1) := zaa rfl
def q126c1 : zab := .seq (.seq (.ops [oD 10 33 2 1 0,oC 11 9 10 9,oD 12 33 3 1 0,oC 13 9 12 9,oAG 14 9 11 13 9 4]) (.cond (.tmp 14) (.seq (.ops [oE 4 4]) (.ret)) (.skip))) (q126c0)
@[simp] theorem yhb : type_of% (zaa q126c1.eq_1) := zaa rfl
@[simp] def q126 : QFn := ⟨15,[(.tmp 4,4)],.seq (.ops [oN 2 33 0 0,oN 3 33 1 0,oE 4 4]) (.seq (.seq (.ops [oD 5 33 2 0 0,oC 6 9 5 9,oD 7 33 3 0 0,oC 8 9 7 9,oAG 9 9 6 8 9 4]) (.cond (.tmp 9) (.seq (.ops [oE 4 4]) (.ret)) (.skip))) (q126c1))⟩
theorem yhc : zan Tryz.f126 = some q126 := by kernel_rfl
abbrev yhd : FuncId := 127
def q127c0 : zab := .seq (.ops [oY 4 4]) (.ret)
@[simp] theorem yhe : type_of% (zaa q127c0.eq_1) := zaa rfl
def q127c1 : zab := .seq (.seq (.ops [oD 15 94 2 2 0,oC 16 9 15 9,oD 17 94 3 2 0,oC 18 9 17 9,oAG 19 9 16 18 9 4]) (.cond (.tmp 19) (.seq (.ops [oE 4 4]) (.ret)) (.skip))) (q127c0)
@[simp] theorem yhf : type_of% (zaa q127c1.eq_1) := zaa rfl
def q127c2 : zab := .seq (.seq (.ops [oD 10 94 2 1 0,oC 11 3 10 3,oD 12 94 3 1 0,oC 13 3 12 3,oAG 14 3 11 13 3 4]) (.cond (.tmp 14) (.seq (.ops [oE 4 4]) (.ret)) (.skip))) (q127c1)
@[simp] theorem yhg : type_of% (zaa q127c2.eq_1) := zaa rfl
@[simp] def q127 : QFn := ⟨20,[(.tmp 4,4)],.seq (.ops [oN 2 94 0 0,oN 3 94 1 0,oE 4 4]) (.seq (.seq (.ops [oD 5 94 2 0 0,oC 6 9 5 9,oD 7 94 3 0 0,oC 8 9 7 9,oAG 9 9 6 8 9 4]) (.cond (.tmp 9) (.seq (.ops [oE 4 4]) (.ret)) (.skip))) (q127c2))⟩
theorem yhh : zan Tryz.f127 = some q127 := by kernel_rfl
abbrev yhi : FuncId := 128
def q128c0 : zab := .seq (.ops [oY 4 4]) (.ret)
@[simp] theorem yhj : type_of% (zaa q128c0.eq_1) := zaa rfl
def q128c1 : zab := .seq (.seq (.ops [oD 10 97 2 1 0,oC 11 9 10 9,oD 12 97 3 1 0,oC 13 9 12 9,oAG 14 9 11 13 9 4]) (.cond (.tmp 14) (.seq (.ops [oE 4 4]) (.ret)) (.skip))) (q128c0)
@[simp] theorem yhk : type_of% (zaa q128c1.eq_1) := zaa rfl
@[simp] def q128 : QFn := ⟨15,[(.tmp 4,4)],.seq (.ops [oN 2 97 0 0,oN 3 97 1 0,oE 4 4]) (.seq (.seq (.ops [oD 5 97 2 0 0,oC 6 9 5 9,oD 7 97 3 0 0,oC 8 9 7 9,oAG 9 9 6 8 9 4]) (.cond (.tmp 9) (.seq (.ops [oE 4 4]) (.ret)) (.skip))) (q128c1))⟩
theorem yhl : zan Tryz.f128 = some q128 := by kernel_rfl
abbrev yhm : FuncId := 129
def q129c0 : zab := .seq (.ops [oY 4 4]) (.ret)
@[simp] theorem yhn : type_of% (zaa q129c0.eq_1) := zaa rfl
def q129c1 : zab := .seq (.seq (.ops [oD 10 35 2 1 0,oC 11 9 10 9,oD 12 35 3 1 0,oC 13 9 12 9,oAG 14 9 11 13 9 4]) (.cond (.tmp 14) (.seq (.ops [oE 4 4]) (.ret)) (.skip))) (q129c0)
@[simp] theorem yho : type_of% (zaa q129c1.eq_1) := zaa rfl
@[simp] def q129 : QFn := ⟨15,[(.tmp 4,4)],.seq (.ops [oN 2 35 0 0,oN 3 35 1 0,oE 4 4]) (.seq (.seq (.ops [oD 5 35 2 0 0,oC 6 9 5 9,oD 7 35 3 0 0,oC 8 9 7 9,oAG 9 9 6 8 9 4]) (.cond (.tmp 9) (.seq (.ops [oE 4 4]) (.ret)) (.skip))) (q129c1))⟩
theorem yhp : zan Tryz.f129 = some q129 := by kernel_rfl
abbrev yhq : FuncId := 130
@[simp] def q130 : QFn := ⟨12,[(.tmp 2,9)],.seq (.ops [oN 1 94 0 0,oO 2 9]) (.seq (.draw [] [⟨some 3,.fieldAddr 94 (.tmp 1) 0,0,none⟩,⟨some 4,.load 9 (.tmp 3),9,none⟩,⟨some 5,.fieldAddr 94 (.tmp 1) 1,0,none⟩,⟨some 6,.load 3 (.tmp 5),3,none⟩,⟨some 7,.call { callee := .value (.func 162),args := #[.tmp 6],argTypes := #[3] },9,none⟩,⟨some 8,.binOp .add 9 (.tmp 4) (.tmp 7) 9,9,none⟩,⟨some 9,.fieldAddr 94 (.tmp 1) 2,0,none⟩,⟨some 10,.load 9 (.tmp 9),9,none⟩] [⟨some 11,.binOp .add 9 (.tmp 8) (.tmp 10) 9,9,none⟩,⟨some 2,.assign (.tmp 11),9,none⟩]) (.ret))⟩
theorem yhr : zan Tryz.f130 = some q130 := by kernel_rfl
abbrev yhs : FuncId := 146
def q146c0 : zab := .ops [oC 23 167 4 167,oA 24 6 3,oAF 25 167 1 0 24 167,oAC 26 23 25 167 167 167,oL 167 4 26 0]
@[simp] theorem yht : type_of% (zaa q146c0.eq_1) := zaa rfl
def q146c1 : zab := .seq (.ops [oC 27 167 4 167,oL 167 2 27 0,⟨none,.store 4 (.tmp 3) (.const (.bool true)),0,none⟩]) (.ret)
@[simp] theorem yhu : type_of% (zaa q146c1.eq_1) := zaa rfl
@[simp] def q146 : QFn := ⟨28,[(.cell 2 167,167),(.cell 3 4,4)],.seq (.ops [oR 2 167 0,oR 3 4 0]) (.seq (.ops [oR 4 167 0]) (.seq (.seq (.ops [oA 8 0 9,⟨some 9,.call { callee := .value (.func 70),args := #[.tmp 8,.const (.string { data := #[46] })],argTypes := #[9,9] },104,none⟩]) (.block 0 (.range 9 [10] (.ops [oB 5 10 9]) (.block 1 (.seq (.ops [oA 12 5 9,⟨some 13,.call { callee := .value (.func 174),args := #[.tmp 12,.const (.int .i64 999)],argTypes := #[9,3] },186,none⟩,oA 11 13 186,oT 14 11 0 3,oT 15 11 1 4,oB 6 14 3,oB 7 15 4]) (.seq (.seq (.ops [oA 16 7 4,oS 17 4 16 4,oA 18 17 4,oAJ 19 167 4 167 18,oAR 20 19 167 3 18,⟨some 21,.binOp .eql 3 (.tmp 20) (.const (.int .i64 4)) 3,4,some (18,false)⟩,oP 22 18 21 4]) (.cond (.tmp 22) (.seq (.ops [⟨none,.store 167 (.tmp 2) (.const (.slice none 0 0)),0,none⟩,⟨none,.store 4 (.tmp 3) (.const (.bool false)),0,none⟩]) (.ret)) (.skip))) (q146c0))))))) (q146c1)))⟩
theorem yhv : zan Tryz.f146 = some q146 := by kernel_rfl
abbrev yhw : FuncId := 147
@[simp] def q147 : QFn := ⟨18,[(.tmp 2,4)],.seq (.ops [oE 2 4]) (.seq (.ops [oA 3 0 9,oF 4 3 9 3,⟨some 5,.binOp .leq 3 (.tmp 4) (.const (.int .i64 10)) 3,4,none⟩,oA 6 5 4,oQ 7 0 9 6,⟨some 8,.binOp .neq 9 (.tmp 7) (.const (.string { data := #[46] })) 9,4,some (6,true)⟩,oU 9 6 8 4,oA 10 9 4,oQ 11 0 9 10,⟨some 12,.binOp .neq 9 (.tmp 11) (.const (.string { data := #[46,46] })) 9,4,some (10,true)⟩,oU 13 10 12 4,oA 14 13 4,oQ 15 0 9 14,oAN 16 175 15 9 4 14,oU 17 14 16 4,oB 2 17 4]) (.ret))⟩
theorem yhx : zan Tryz.f147 = some q147 := by kernel_rfl
abbrev yhy : FuncId := 148
def q148c0 : zab := .ops [oH 34 3 9 1 3 3,oA 9 34 3]
@[simp] theorem yhz : type_of% (zaa q148c0.eq_1) := zaa rfl
def q148c1 : zab := .seq (.block 1 (.seq (.ops [oA 11 9 3,oB 3 11 3]) (.seq (.ops [oA 12 0 9,oA 13 3 3,oAH 14 9 12 13 5,⟨some 15,.binOp .lss 5 (.tmp 14) (.const (.int .u8 48)) 5,4,none⟩,oA 16 15 4,oK 17 0 9 16,oK 18 3 3 16,oAO 19 9 17 18 5 16,oAS 20 5 19 57 5 4 16,oP 21 16 20 4,oA 22 21 4,oQ 23 0 9 22,oQ 24 3 3 22,⟨some 25,.index 9 (.tmp 23) (.tmp 24),5,some (22,true)⟩,⟨some 26,.binOp .lss 5 (.tmp 25) (.const (.int .u8 97)) 5,4,some (22,true)⟩,oQ 27 26 4 22,oK 28 0 9 27,oK 29 3 3 27,oAO 30 9 28 29 5 27,oAS 31 5 30 102 5 4 27,⟨some 32,.pick (.tmp 27) (.const (.bool true)) (.tmp 31),4,some (22,true)⟩,oU 33 22 32 4]) (.cond (.tmp 33) (.seq (.ops [oE 2 4]) (.ret)) (.skip))))) (q148c0)
@[simp] theorem yh0 : type_of% (zaa q148c1.eq_1) := zaa rfl
def q148l0 : zab := .seq (.ops [oI 10 3 9 8 3 4]) (.seq (.cond (.tmp 10) (.skip) (.exit 0)) (q148c1))
@[simp] theorem yh1 : type_of% (zaa q148l0.eq_1) := zaa rfl
def q148c2 : zab := .seq (.ops [oY 2 4]) (.ret)
@[simp] theorem yh2 : type_of% (zaa q148c2.eq_1) := zaa rfl
def q148c3 : zab := .seq (.seq (.ops [oA 7 0 9,oF 8 7 9 3,oZ 9 0 3]) (.block 0 (.loop q148l0))) (q148c2)
@[simp] theorem yh3 : type_of% (zaa q148c3.eq_1) := zaa rfl
@[simp] def q148 : QFn := ⟨35,[(.tmp 2,4)],.seq (.ops [oE 2 4]) (.seq (.seq (.ops [oA 4 0 9,oF 5 4 9 3,⟨some 6,.binOp .neq 3 (.tmp 5) (.const (.int .i64 16)) 3,4,none⟩]) (.cond (.tmp 6) (.seq (.ops [oE 2 4]) (.ret)) (.skip))) (q148c3))⟩
theorem yh4 : zan Tryz.f148 = some q148 := by kernel_rfl
abbrev yh5 : FuncId := 149
@[simp] def q149 : QFn := ⟨11,[(.tmp 2,4)],.seq (.ops [oE 2 4]) (.seq (.ops [oA 6 0 9,oJ 7 176 6 9 189,oA 5 7 189,oT 8 5 0 188,oT 9 5 1 4,oB 3 8 188,oB 4 9 4]) (.seq (.ops [oA 10 4 4,oB 2 10 4]) (.ret)))⟩
theorem yh6 : zan Tryz.f149 = some q149 := by kernel_rfl
abbrev yh7 : FuncId := 150
def q150c0 : zab := .ops [oH 17 3 9 1 3 3,oA 9 17 3]
@[simp] theorem yh8 : type_of% (zaa q150c0.eq_1) := zaa rfl
def q150c1 : zab := .seq (.block 1 (.seq (.ops [oA 11 9 3,oB 3 11 3]) (.seq (.ops [oA 12 0 9,oA 13 3 3,oAH 14 9 12 13 5,oJ 15 177 14 5 4,oS 16 4 15 4]) (.cond (.tmp 16) (.seq (.ops [oE 2 4]) (.ret)) (.skip))))) (q150c0)
@[simp] theorem yh9 : type_of% (zaa q150c1.eq_1) := zaa rfl
def q150l0 : zab := .seq (.ops [oI 10 3 9 8 3 4]) (.seq (.cond (.tmp 10) (.skip) (.exit 0)) (q150c1))
@[simp] theorem yia : type_of% (zaa q150l0.eq_1) := zaa rfl
def q150c2 : zab := .seq (.ops [oY 2 4]) (.ret)
@[simp] theorem yib : type_of% (zaa q150c2.eq_1) := zaa rfl
def q150c3 : zab := .seq (.seq (.ops [oA 7 0 9,oF 8 7 9 3,oZ 9 0 3]) (.block 0 (.loop q150l0))) (q150c2)
@[simp] theorem yic : type_of% (zaa q150c3.eq_1) := zaa rfl
@[simp] def q150 : QFn := ⟨18,[(.tmp 2,4)],.seq (.ops [oE 2 4]) (.seq (.seq (.ops [oA 4 0 9,oF 5 4 9 3,oAP 6 3 5 80 3 4]) (.cond (.tmp 6) (.seq (.ops [oE 2 4]) (.ret)) (.skip))) (q150c3))⟩
theorem yid : zan Tryz.f150 = some q150 := by kernel_rfl
abbrev z28 : FuncId := 151
def q151c0 : zab := .seq (.ops [⟨some 5,.buildSlice 27 0 #[],27,none⟩,oA 6 0 27,oAC 7 5 6 27 27 27,oB 2 7 27]) (.ret)
@[simp] theorem yie : type_of% (zaa q151c0.eq_1) := zaa rfl
@[simp] def q151 : QFn := ⟨8,[(.tmp 2,27)],.seq (.ops [oAB 2 27]) (.seq (.seq (.ops [oA 3 0 27,⟨some 4,.binOp .eql 27 (.tmp 3) (.const (.slice none 0 0)) 27,4,none⟩]) (.cond (.tmp 4) (.seq (.ops [oAB 2 27]) (.ret)) (.skip))) (q151c0))⟩
theorem z6e : zan Tryz.f151 = some q151 := by kernel_rfl
abbrev yif : FuncId := 152
@[simp] def q152 : QFn := ⟨9,[(.tmp 4,4)],.seq (.ops [oE 4 4]) (.seq (.ops [oA 5 0 27,oA 6 1 9,oV 7 178 5 6 27 9 3,⟨some 8,.binOp .geq 3 (.tmp 7) (.const (.int .i64 0)) 3,4,none⟩,oB 4 8 4]) (.ret))⟩
theorem yig : zan Tryz.f152 = some q152 := by kernel_rfl
abbrev yih : FuncId := 153
@[simp] def q153 : QFn := ⟨6,[(.tmp 2,4)],.seq (.ops [oN 1 33 0 0,oE 2 4]) (.seq (.ops [oC 3 33 1 33,oJ 4 88 3 33 4,oS 5 4 4 4,oB 2 5 4]) (.ret))⟩
theorem yii : zan Tryz.f153 = some q153 := by kernel_rfl
abbrev yij : FuncId := 154
@[simp] def q154 : QFn := ⟨9,[(.tmp 4,4)],.seq (.ops [oE 4 4]) (.seq (.ops [oA 5 0 23,oA 6 1 115,oV 7 179 5 6 23 115 3,⟨some 8,.binOp .geq 3 (.tmp 7) (.const (.int .i64 0)) 3,4,none⟩,oB 4 8 4]) (.ret))⟩
theorem yik : zan Tryz.f154 = some q154 := by kernel_rfl
abbrev yil : FuncId := 155
def q155c0 : zab := .ops [oA 50 9 9,oB 1 50 9]
@[simp] theorem yim : type_of% (zaa q155c0.eq_1) := zaa rfl
def q155c1 : zab := .seq (.ops [oA 38 6 9,oA 39 1 9,oA 40 7 3,⟨some 41,.slice 9 (.tmp 39) none (some (.tmp 40)) none,9,none⟩,oA 42 11 9,oAK 43 9 41 42 9 9,oAK 44 9 38 43 9 9,oB 6 44 9]) (.seq (.seq (.ops [oA 45 6 9,oF 46 45 9 3,oAP 47 3 46 80 3 4]) (.cond (.tmp 47) (.seq (.ops [⟨some 48,.build 195 #[(0,.const (.int .i64 5))],195,none⟩,⟨some 49,.makeInterface 195 (.tmp 48),88,none⟩,oO 4 9,oB 5 49 88]) (.ret)) (.skip))) (q155c0))
@[simp] theorem yin : type_of% (zaa q155c1.eq_1) := zaa rfl
def q155c2 : zab := .seq (.ops [oA 30 0 193,oA 31 8 9,oV 32 181 30 31 193 9 173,oA 29 32 173,oT 33 29 0 9,oT 34 29 1 88,oB 11 33 9,oB 12 34 88]) (.seq (.seq (.ops [oA 35 12 88,⟨some 36,.binOp .neq 88 (.tmp 35) (.const .nilIface) 88,4,none⟩]) (.cond (.tmp 36) (.seq (.ops [oA 37 12 88,oO 4 9,oB 5 37 88]) (.ret)) (.skip))) (q155c1))
@[simp] theorem yio : type_of% (zaa q155c2.eq_1) := zaa rfl
def q155c3 : zab := .seq (.ops [oA 18 1 9,oA 19 7 3,⟨some 20,.slice 9 (.tmp 18) (some (.tmp 19)) none none,9,none⟩,oJ 21 180 20 9 134,oA 17 21 134,oT 22 17 0 9,oT 23 17 1 9,oT 24 17 2 4,oB 8 22 9,oB 9 23 9,oB 10 24 4]) (.seq (.seq (.ops [oA 25 10 4,oS 26 4 25 4]) (.cond (.tmp 26) (.seq (.ops [⟨some 27,.build 195 #[(0,.const (.int .i64 1))],195,none⟩,⟨some 28,.makeInterface 195 (.tmp 27),88,none⟩,oO 4 9,oB 5 28 88]) (.ret)) (.skip))) (q155c2))
@[simp] theorem yip : type_of% (zaa q155c3.eq_1) := zaa rfl
def q155l0 : zab := .block 1 (.seq (.ops [oA 13 1 9,⟨some 14,.call { callee := .value (.func 168),args := #[.tmp 13,.const (.string { data := #[36,123] })],argTypes := #[9,9] },3,none⟩,oB 7 14 3]) (.seq (.seq (.ops [oA 15 7 3,oW 16 3 15 0 3 4]) (.cond (.tmp 16) (.exit 0) (.skip))) (q155c3)))
@[simp] theorem yiq : type_of% (zaa q155l0.eq_1) := zaa rfl
def q155c4 : zab := .seq (.ops [oA 59 6 9,oB 4 59 9,⟨some 5,.assign (.const .nilIface),88,none⟩]) (.ret)
@[simp] theorem yir : type_of% (zaa q155c4.eq_1) := zaa rfl
def q155c5 : zab := .seq (.ops [oA 51 6 9,oA 52 1 9,oAK 53 9 51 52 9 9,oB 6 53 9]) (.seq (.seq (.ops [oA 54 6 9,oF 55 54 9 3,oAP 56 3 55 80 3 4]) (.cond (.tmp 56) (.seq (.ops [⟨some 57,.build 195 #[(0,.const (.int .i64 5))],195,none⟩,⟨some 58,.makeInterface 195 (.tmp 57),88,none⟩,oO 4 9,oB 5 58 88]) (.ret)) (.skip))) (q155c4))
@[simp] theorem yis : type_of% (zaa q155c5.eq_1) := zaa rfl
@[simp] def q155 : QFn := ⟨60,[(.tmp 4,9),(.tmp 5,88)],.seq (.ops [oO 4 9,⟨some 5,.assign (.const .nilIface),88,none⟩]) (.seq (.ops [oO 6 9]) (.seq (.block 0 (.loop q155l0)) (q155c5)))⟩
theorem yit : zan Tryz.f155 = some q155 := by kernel_rfl
abbrev yiu : FuncId := 157
@[simp] def q157 : QFn := ⟨29,[(.tmp 2,4)],.seq (.ops [oE 2 4]) (.seq (.ops [oA 3 0 5,⟨some 4,.binOp .geq 5 (.tmp 3) (.const (.int .u8 97)) 5,4,none⟩,oA 5 4 4,oQ 6 0 5 5,oAT 7 5 6 122 5 4 5,oU 8 5 7 4,oA 9 8 4,oK 10 0 5 9,⟨some 11,.binOp .geq 5 (.tmp 10) (.const (.int .u8 48)) 5,4,some (9,false)⟩,oK 12 11 4 9,oQ 13 0 5 12,oAT 14 5 13 57 5 4 12,⟨some 15,.pick (.tmp 12) (.tmp 14) (.const (.bool false)),4,some (9,false)⟩,oP 16 9 15 4,oA 17 16 4,oK 18 0 5 17,⟨some 19,.binOp .eql 5 (.tmp 18) (.const (.int .u8 46)) 5,4,some (17,false)⟩,oP 20 17 19 4,oA 21 20 4,oK 22 0 5 21,⟨some 23,.binOp .eql 5 (.tmp 22) (.const (.int .u8 95)) 5,4,some (21,false)⟩,oP 24 21 23 4,oA 25 24 4,oK 26 0 5 25,⟨some 27,.binOp .eql 5 (.tmp 26) (.const (.int .u8 45)) 5,4,some (25,false)⟩,oP 28 25 27 4,oB 2 28 4]) (.ret))⟩
theorem yiv : zan Tryz.f157 = some q157 := by kernel_rfl
abbrev yiw : FuncId := 158
@[simp] def q158 : QFn := ⟨15,[(.tmp 6,4)],.seq (.ops [oE 6 4]) (.seq (.ops [oA 7 0 3,oA 8 1 3,⟨some 9,.binOp .geq 3 (.tmp 7) (.tmp 8) 3,4,none⟩,oA 10 9 4,oQ 11 0 3 10,oQ 12 2 3 10,⟨some 13,.binOp .leq 3 (.tmp 11) (.tmp 12) 3,4,some (10,true)⟩,oU 14 10 13 4,oB 6 14 4]) (.ret))⟩
theorem yix : zan Tryz.f158 = some q158 := by kernel_rfl
abbrev yiy : FuncId := 159
def q159c0 : zab := .ops [oA 22 3 3,oA 23 4 3,oAK 24 3 22 23 3 3,⟨some 25,.binOp .sub 3 (.tmp 24) (.const (.int .i64 1)) 3,3,none⟩,oB 3 25 3]
@[simp] theorem yiz : type_of% (zaa q159c0.eq_1) := zaa rfl
def q159c1 : zab := .ops [oA 9 3 3,oH 10 3 9 1 3 3,oB 3 10 3]
@[simp] theorem yi0 : type_of% (zaa q159c1.eq_1) := zaa rfl
def q159c2 : zab := .seq (.block 1 (.block 2 (.seq (.ops [oA 12 0 9,oA 13 3 3,oAH 14 9 12 13 5,⟨some 15,.binOp .eql 5 (.tmp 14) (.const (.int .u8 91)) 5,4,none⟩,oB 11 15 4]) (.cond (.tmp 11) (.seq (.ops [oA 16 0 9,oA 17 3 3,⟨some 18,.slice 9 (.tmp 16) (some (.tmp 17)) none none,9,none⟩,oJ 19 183 18 9 3,oB 4 19 3]) (.seq (.seq (.ops [oA 20 4 3,oAM 21 3 20 0 3 4]) (.cond (.tmp 21) (.seq (.ops [oE 2 4]) (.ret)) (.skip))) (q159c0))) (.seq (.ops [oA 27 0 9,oA 28 3 3,oAH 29 9 27 28 5,⟨some 30,.binOp .eql 5 (.tmp 29) (.const (.int .u8 42)) 5,4,none⟩,oA 31 30 4,oK 32 0 9 31,oK 33 3 3 31,oAO 34 9 32 33 5 31,⟨some 35,.binOp .eql 5 (.tmp 34) (.const (.int .u8 63)) 5,4,some (31,false)⟩,oP 36 31 35 4,oB 26 36 4]) (.cond (.tmp 26) (.exit 1) (.seq (.ops [oA 38 0 9,oA 39 3 3,oAH 40 9 38 39 5,oJ 41 157 40 5 4,oS 42 4 41 4,oB 37 42 4]) (.cond (.tmp 37) (.seq (.ops [oE 2 4]) (.ret)) (.skip))))))))) (q159c1)
@[simp] theorem yi1 : type_of% (zaa q159c2.eq_1) := zaa rfl
def q159l0 : zab := .seq (.seq (.ops [oA 5 3 3,oA 6 0 9,oF 7 6 9 3,oI 8 3 5 7 3 4]) (.cond (.tmp 8) (.skip) (.exit 0))) (q159c2)
@[simp] theorem yi2 : type_of% (zaa q159l0.eq_1) := zaa rfl
def q159c3 : zab := .seq (.ops [oA 43 0 9,⟨some 44,.binOp .neq 9 (.tmp 43) (.const (.string { data := #[] })) 9,4,none⟩,oB 2 44 4]) (.ret)
@[simp] theorem yi3 : type_of% (zaa q159c3.eq_1) := zaa rfl
@[simp] def q159 : QFn := ⟨45,[(.tmp 2,4)],.seq (.ops [oE 2 4]) (.seq (.seq (.ops [oG 3 0 3]) (.block 0 (.loop q159l0))) (q159c3))⟩
theorem yi4 : zan Tryz.f159 = some q159 := by kernel_rfl
abbrev yi5 : FuncId := 160
def q160c0 : zab := .ops [oA 29 5 166,oA 30 7 3,oAF 31 166 1 0 30 166,oAC 32 29 31 166 166 166,oB 5 32 166]
@[simp] theorem yi6 : type_of% (zaa q160c0.eq_1) := zaa rfl
def q160c1 : zab := .ops [oA 18 6 3,oH 19 3 18 1 3 3,oB 6 19 3]
@[simp] theorem yi7 : type_of% (zaa q160c1.eq_1) := zaa rfl
def q160c2 : zab := .seq (.block 1 (.seq (.ops [oA 20 4 27,oA 21 6 3,oM 22 27 20 21 0,oC 23 9 22 9,oJ 24 184 23 9 3,oB 7 24 3]) (.seq (.seq (.ops [oA 25 7 3,oAW 26 158 25 0 999 3 3 3 4,oS 27 4 26 4]) (.cond (.tmp 27) (.seq (.ops [oA 28 5 166,oB 2 28 166,oE 3 4]) (.ret)) (.skip))) (q160c0)))) (q160c1)
@[simp] theorem yi8 : type_of% (zaa q160c2.eq_1) := zaa rfl
def q160l0 : zab := .seq (.seq (.ops [oA 14 6 3,oA 15 4 27,oF 16 15 27 3,oI 17 3 14 16 3 4]) (.cond (.tmp 17) (.skip) (.exit 0))) (q160c2)
@[simp] theorem yi9 : type_of% (zaa q160l0.eq_1) := zaa rfl
def q160c3 : zab := .seq (.ops [oA 33 5 166,oA 34 4 27,oF 35 34 27 3,⟨some 36,.binOp .leq 3 (.tmp 35) (.const (.int .i64 4)) 3,4,none⟩,oB 2 33 166,oB 3 36 4]) (.ret)
@[simp] theorem yja : type_of% (zaa q160c3.eq_1) := zaa rfl
@[simp] def q160 : QFn := ⟨37,[(.tmp 2,166),(.tmp 3,4)],.seq (.ops [oAB 2 166,oE 3 4]) (.seq (.ops [oA 8 0 9,oA 9 0 9,oF 10 9 9 3,oH 11 3 10 1 3 3,⟨some 12,.call { callee := .value (.func 67),args := #[.tmp 8,.const (.int .u8 46),.tmp 11],argTypes := #[9,5,3] },27,none⟩,oB 4 12 27]) (.seq (.ops [⟨some 13,.buildSlice 166 0 #[],166,none⟩,oB 5 13 166]) (.seq (.seq (.ops [oG 6 0 3]) (.block 0 (.loop q160l0))) (q160c3))))⟩
theorem yjb : zan Tryz.f160 = some q160 := by kernel_rfl
abbrev yjc : FuncId := 161
@[simp] def q161 : QFn := ⟨26,[(.tmp 2,4)],.seq (.ops [oN 1 94 0 0,oE 2 4]) (.seq (.ops [oD 3 94 1 0 0,oC 4 9 3 9,oJ 5 109 4 9 4,oA 6 5 4,oAD 7 94 1 1 0 6,oAE 8 3 7 3 6,⟨some 9,.binOp .eql 3 (.tmp 8) (.const (.int .i64 0)) 3,4,some (6,true)⟩,oQ 10 9 4 6,oAD 11 94 1 2 0 10,oAE 12 9 11 9 10,⟨some 13,.binOp .eql 9 (.tmp 12) (.const (.string { data := #[] })) 9,4,some (10,true)⟩,⟨some 14,.pick (.tmp 10) (.tmp 13) (.const (.bool false)),4,some (6,true)⟩,oQ 15 14 4 6,oAL 16 94 1 1 0 15,oAJ 17 3 16 3 15,⟨some 18,.call { callee := .value (.func 158),args := #[.tmp 17,.const (.int .i64 1),.const (.int .i64 3)],argTypes := #[3,3,3] },4,some (15,false)⟩,oK 19 18 4 15,oAD 20 94 1 2 0 19,oAE 21 9 20 9 19,oAN 22 112 21 9 4 19,⟨some 23,.pick (.tmp 19) (.tmp 22) (.const (.bool false)),4,some (15,false)⟩,⟨some 24,.pick (.tmp 15) (.const (.bool true)) (.tmp 23),4,some (6,true)⟩,oU 25 6 24 4,oB 2 25 4]) (.ret))⟩
theorem yjd : zan Tryz.f161 = some q161 := by kernel_rfl
abbrev yje : FuncId := 162
def q162c0 : zab := .seq (.ops [oO 2 9]) (.ret)
@[simp] theorem yjf : type_of% (zaa q162c0.eq_1) := zaa rfl
@[simp] def q162 : QFn := ⟨10,[(.tmp 2,9)],.seq (.ops [oO 2 9]) (.seq (.seq (.ops [oA 3 0 3]) (.block 0 (.seq (.ops [oAM 5 3 3 1 3 4,oB 4 5 4]) (.cond (.tmp 4) (.seq (.ops [⟨some 2,.assign (.const (.string { data := #[61] })),9,none⟩]) (.ret)) (.seq (.ops [oAM 7 3 3 2 3 4,oB 6 7 4]) (.cond (.tmp 6) (.seq (.ops [⟨some 2,.assign (.const (.string { data := #[62,61] })),9,none⟩]) (.ret)) (.seq (.ops [oAM 9 3 3 3 3 4,oB 8 9 4]) (.cond (.tmp 8) (.seq (.ops [⟨some 2,.assign (.const (.string { data := #[60] })),9,none⟩]) (.ret)) (.skip))))))))) (q162c0))⟩
theorem yjg : zan Tryz.f162 = some q162 := by kernel_rfl
abbrev yjh : FuncId := 174
def q174c0 : zab := .ops [oA 40 6 3,⟨some 41,.binOp .mul 3 (.tmp 40) (.const (.int .i64 10)) 3,3,none⟩,oA 42 0 9,oA 43 7 3,oAH 44 9 42 43 5,⟨some 45,.binOp .sub 5 (.tmp 44) (.const (.int .u8 48)) 5,5,none⟩,⟨some 46,.convert 5 3 (.tmp 45),3,none⟩,oAK 47 3 41 46 3 3,oB 6 47 3]
@[simp] theorem yji : type_of% (zaa q174c0.eq_1) := zaa rfl
def q174c1 : zab := .ops [oH 48 3 27 1 3 3,oA 27 48 3]
@[simp] theorem yjj : type_of% (zaa q174c1.eq_1) := zaa rfl
def q174c2 : zab := .seq (.block 1 (.seq (.ops [oA 29 27 3,oB 7 29 3]) (.seq (.seq (.ops [oA 30 0 9,oA 31 7 3,oAH 32 9 30 31 5,⟨some 33,.binOp .lss 5 (.tmp 32) (.const (.int .u8 48)) 5,4,none⟩,oA 34 33 4,oK 35 0 9 34,oK 36 7 3 34,oAO 37 9 35 36 5 34,oAS 38 5 37 57 5 4 34,oP 39 34 38 4]) (.cond (.tmp 39) (.seq (.ops [oG 4 0 3,oE 5 4]) (.ret)) (.skip))) (q174c0)))) (q174c1)
@[simp] theorem yjk : type_of% (zaa q174c2.eq_1) := zaa rfl
def q174l0 : zab := .seq (.ops [oI 28 3 27 26 3 4]) (.seq (.cond (.tmp 28) (.skip) (.exit 0)) (q174c2))
@[simp] theorem yjl : type_of% (zaa q174l0.eq_1) := zaa rfl
def q174c3 : zab := .seq (.ops [oA 52 6 3,oB 4 52 3,oY 5 4]) (.ret)
@[simp] theorem yjm : type_of% (zaa q174c3.eq_1) := zaa rfl
def q174c4 : zab := .seq (.seq (.ops [oA 49 6 3,oA 50 1 3,⟨some 51,.binOp .gtr 3 (.tmp 49) (.tmp 50) 3,4,none⟩]) (.cond (.tmp 51) (.seq (.ops [oG 4 0 3,oE 5 4]) (.ret)) (.skip))) (q174c3)
@[simp] theorem yjn : type_of% (zaa q174c4.eq_1) := zaa rfl
def q174c5 : zab := .seq (.ops [oG 6 0 3]) (.seq (.seq (.ops [oA 25 0 9,oF 26 25 9 3,oZ 27 0 3]) (.block 0 (.loop q174l0))) (q174c4))
@[simp] theorem yjo : type_of% (zaa q174c5.eq_1) := zaa rfl
@[simp] def q174 : QFn := ⟨53,[(.tmp 4,3),(.tmp 5,4)],.seq (.ops [oG 4 0 3,oE 5 4]) (.seq (.seq (.ops [oA 8 0 9,⟨some 9,.binOp .eql 9 (.tmp 8) (.const (.string { data := #[] })) 9,4,none⟩,oA 10 9 4,oK 11 0 9 10,oAR 12 11 9 3 10,⟨some 13,.binOp .gtr 3 (.tmp 12) (.const (.int .i64 9)) 3,4,some (10,false)⟩,oP 14 10 13 4,oA 15 14 4,oK 16 0 9 15,oAR 17 16 9 3 15,⟨some 18,.binOp .gtr 3 (.tmp 17) (.const (.int .i64 1)) 3,4,some (15,false)⟩,oK 19 18 4 15,oQ 20 0 9 19,⟨some 21,.index 9 (.tmp 20) (.const (.int .i64 0)),5,some (19,true)⟩,⟨some 22,.binOp .eql 5 (.tmp 21) (.const (.int .u8 48)) 5,4,some (19,true)⟩,⟨some 23,.pick (.tmp 19) (.tmp 22) (.const (.bool false)),4,some (15,false)⟩,oP 24 15 23 4]) (.cond (.tmp 24) (.seq (.ops [oG 4 0 3,oE 5 4]) (.ret)) (.skip))) (q174c5))⟩
theorem yjp : zan Tryz.f174 = some q174 := by kernel_rfl
abbrev yjq : FuncId := 175
def q175c0 : zab := .ops [oH 14 3 6 1 3 3,oA 6 14 3]
@[simp] theorem yjr : type_of% (zaa q175c0.eq_1) := zaa rfl
def q175c1 : zab := .seq (.block 1 (.seq (.ops [oA 8 6 3,oB 3 8 3]) (.seq (.ops [oA 9 0 9,oA 10 3 3,oAH 11 9 9 10 5,oJ 12 195 11 5 4,oS 13 4 12 4]) (.cond (.tmp 13) (.seq (.ops [oE 2 4]) (.ret)) (.skip))))) (q175c0)
@[simp] theorem yjs : type_of% (zaa q175c1.eq_1) := zaa rfl
def q175l0 : zab := .seq (.ops [oI 7 3 6 5 3 4]) (.seq (.cond (.tmp 7) (.skip) (.exit 0)) (q175c1))
@[simp] theorem yjt : type_of% (zaa q175l0.eq_1) := zaa rfl
def q175c2 : zab := .seq (.ops [oA 15 0 9,⟨some 16,.binOp .neq 9 (.tmp 15) (.const (.string { data := #[] })) 9,4,none⟩,oB 2 16 4]) (.ret)
@[simp] theorem yju : type_of% (zaa q175c2.eq_1) := zaa rfl
@[simp] def q175 : QFn := ⟨17,[(.tmp 2,4)],.seq (.ops [oE 2 4]) (.seq (.seq (.ops [oA 4 0 9,oF 5 4 9 3,oZ 6 0 3]) (.block 0 (.loop q175l0))) (q175c2))⟩
theorem yjv : zan Tryz.f175 = some q175 := by kernel_rfl
abbrev yjw : FuncId := 176
def q176c0 : zab := .seq (.ops [⟨some 27,.makeFunc (.func 197) #[] #[.tmp 6],54,none⟩,oB 8 27 54]) (.ops [oC 28 188 4 188,oA 29 5 9,⟨some 30,.binOp .eql 9 (.tmp 29) (.const (.string { data := #[42,42] })) 9,4,none⟩,oA 31 8 54,⟨some 32,.build 216 #[(0,.tmp 30),(1,.tmp 31)],216,none⟩,oAF 33 188 1 0 32 188,oAC 34 28 33 188 188 188,oL 188 4 34 0])
@[simp] theorem yjx : type_of% (zaa q176c0.eq_1) := zaa rfl
def q176c1 : zab := .seq (.ops [oC 35 188 4 188,oL 188 2 35 0,⟨none,.store 4 (.tmp 3) (.const (.bool true)),0,none⟩]) (.ret)
@[simp] theorem yjy : type_of% (zaa q176c1.eq_1) := zaa rfl
def q176c2 : zab := .seq (.ops [oR 4 188 0]) (.seq (.seq (.ops [oA 12 0 9,⟨some 13,.call { callee := .value (.func 70),args := #[.tmp 12,.const (.string { data := #[47] })],argTypes := #[9,9] },104,none⟩]) (.block 0 (.range 13 [14] (.ops [oB 5 14 9]) (.block 1 (.seq (.ops [oA 16 5 9,oJ 17 196 16 9 212,oA 15 17 212,oT 18 15 0 211,oT 19 15 1 4,oR 6 211 0,oL 211 6 18 0,oB 7 19 4]) (.seq (.seq (.ops [oA 20 7 4,oS 21 4 20 4,oA 22 21 4,oAJ 23 188 4 188 22,oAR 24 23 188 3 22,⟨some 25,.binOp .eql 3 (.tmp 24) (.const (.int .i64 5)) 3,4,some (22,false)⟩,oP 26 22 25 4]) (.cond (.tmp 26) (.seq (.ops [⟨none,.store 188 (.tmp 2) (.const (.slice none 0 0)),0,none⟩,⟨none,.store 4 (.tmp 3) (.const (.bool false)),0,none⟩]) (.ret)) (.skip))) (q176c0))))))) (q176c1))
@[simp] theorem yjz : type_of% (zaa q176c2.eq_1) := zaa rfl
@[simp] def q176 : QFn := ⟨36,[(.cell 2 188,188),(.cell 3 4,4)],.seq (.ops [oR 2 188 0,oR 3 4 0]) (.seq (.seq (.ops [oA 9 0 9,oF 10 9 9 3,oAP 11 3 10 40 3 4]) (.cond (.tmp 11) (.seq (.ops [⟨none,.store 188 (.tmp 2) (.const (.slice none 0 0)),0,none⟩,⟨none,.store 4 (.tmp 3) (.const (.bool false)),0,none⟩]) (.ret)) (.skip))) (q176c2))⟩
theorem yj0 : zan Tryz.f176 = some q176 := by kernel_rfl
abbrev yj1 : FuncId := 177
@[simp] def q177 : QFn := ⟨9,[(.tmp 2,4)],.seq (.ops [oE 2 4]) (.seq (.ops [oA 3 0 5,⟨some 4,.binOp .geq 5 (.tmp 3) (.const (.int .u8 32)) 5,4,none⟩,oA 5 4 4,oQ 6 0 5 5,oAT 7 5 6 126 5 4 5,oU 8 5 7 4,oB 2 8 4]) (.ret))⟩
theorem yj2 : zan Tryz.f177 = some q177 := by kernel_rfl
abbrev yj3 : FuncId := 178
def q178c0 : zab := .ops [oH 18 3 8 1 3 3,oA 8 18 3]
@[simp] theorem yj4 : type_of% (zaa q178c0.eq_1) := zaa rfl
def q178c1 : zab := .seq (.block 1 (.seq (.ops [oA 10 8 3,oB 5 10 3]) (.seq (.ops [oA 11 1 9,oA 12 0 27,oA 13 5 3,oM 14 27 12 13 0,oC 15 9 14 9,⟨some 16,.binOp .eql 9 (.tmp 11) (.tmp 15) 9,4,none⟩]) (.cond (.tmp 16) (.seq (.ops [oA 17 5 3,oB 4 17 3]) (.ret)) (.skip))))) (q178c0)
@[simp] theorem yj5 : type_of% (zaa q178c1.eq_1) := zaa rfl
def q178l0 : zab := .seq (.ops [oI 9 3 8 7 3 0]) (.seq (.cond (.tmp 9) (.skip) (.exit 0)) (q178c1))
@[simp] theorem yj6 : type_of% (zaa q178l0.eq_1) := zaa rfl
def q178c2 : zab := .seq (.ops [oX 4 3]) (.ret)
@[simp] theorem yj7 : type_of% (zaa q178c2.eq_1) := zaa rfl
@[simp] def q178 : QFn := ⟨19,[(.tmp 4,3)],.seq (.ops [oG 4 0 3]) (.seq (.seq (.ops [oA 6 0 27,oF 7 6 27 3,oZ 8 0 3]) (.block 0 (.loop q178l0))) (q178c2))⟩
theorem yj8 : zan Tryz.f178 = some q178 := by kernel_rfl
abbrev yaf : FuncId := 179
def q179c0 : zab := .ops [oH 18 3 8 1 3 3,oA 8 18 3]
@[simp] theorem yj9 : type_of% (zaa q179c0.eq_1) := zaa rfl
def q179c1 : zab := .seq (.block 1 (.seq (.ops [oA 10 8 3,oB 5 10 3]) (.seq (.ops [oA 11 1 115,oA 12 0 23,oA 13 5 3,oM 14 23 12 13 0,oC 15 33 14 33,oAA 16 11 15 33 4]) (.cond (.tmp 16) (.seq (.ops [oA 17 5 3,oB 4 17 3]) (.ret)) (.skip))))) (q179c0)
@[simp] theorem yka : type_of% (zaa q179c1.eq_1) := zaa rfl
def q179l0 : zab := .seq (.ops [oI 9 3 8 7 3 0]) (.seq (.cond (.tmp 9) (.skip) (.exit 0)) (q179c1))
@[simp] theorem ykb : type_of% (zaa q179l0.eq_1) := zaa rfl
def q179c2 : zab := .seq (.ops [oX 4 3]) (.ret)
@[simp] theorem ykc : type_of% (zaa q179c2.eq_1) := zaa rfl
@[simp] def q179 : QFn := ⟨19,[(.tmp 4,3)],.seq (.ops [oG 4 0 3]) (.seq (.seq (.ops [oA 6 0 23,oF 7 6 23 3,oZ 8 0 3]) (.block 0 (.loop q179l0))) (q179c2))⟩
theorem yag : zan Tryz.f179 = some q179 := by kernel_rfl
abbrev ykd : FuncId := 180
def q180c0 : zab := .seq (.ops [oA 22 5 9,oA 23 6 9,oB 2 22 9,oB 3 23 9,oY 4 4]) (.ret)
@[simp] theorem yke : type_of% (zaa q180c0.eq_1) := zaa rfl
@[simp] def q180 : QFn := ⟨24,[(.tmp 2,9),(.tmp 3,9),(.tmp 4,4)],.seq (.ops [oO 2 9,oO 3 9,oE 4 4]) (.seq (.ops [oA 9 0 9,⟨some 10,.call { callee := .value (.func 199),args := #[.tmp 9,.const (.string { data := #[36,123] })],argTypes := #[9,9] },9,none⟩,⟨some 11,.call { callee := .value (.func 137),args := #[.tmp 10,.const (.string { data := #[125] })],argTypes := #[9,9] },134,none⟩,oA 8 11 134,oT 12 8 0 9,oT 13 8 1 9,oT 14 8 2 4,oB 5 12 9,oB 6 13 9,oB 7 14 4]) (.seq (.seq (.ops [oA 15 7 4,oS 16 4 15 4,oA 17 16 4,oK 18 5 9 17,oAQ 19 85 18 9 4 17,⟨some 20,.unOp .not 4 (.tmp 19),4,some (17,false)⟩,oP 21 17 20 4]) (.cond (.tmp 21) (.seq (.ops [oO 2 9,oO 3 9,oE 4 4]) (.ret)) (.skip))) (q180c0)))⟩
theorem ykf : zan Tryz.f180 = some q180 := by kernel_rfl
abbrev ykg : FuncId := 181
def q181c0 : zab := .seq (.draw [] [⟨some 27,.move (.tmp 0),193,none⟩,⟨some 28,.move (.tmp 0),193,none⟩,⟨some 29,.nilCheck (.tmp 28),0,none⟩,⟨some 30,.fieldAddr 172 (.tmp 29) 1,0,none⟩,⟨some 31,.load 27 (.tmp 30),27,none⟩,⟨some 32,.load 9 (.tmp 3),9,none⟩,⟨some 33,.buildSlice 27 1 #[(0,.tmp 32)],27,none⟩] [⟨some 34,.call { callee := .builtin .append,args := #[.tmp 31,.tmp 33],argTypes := #[27,27] },27,none⟩,⟨some 35,.nilCheck (.tmp 27),0,none⟩,⟨some 36,.fieldAddr 172 (.tmp 35) 1,0,none⟩,⟨none,.store 27 (.tmp 36) (.tmp 34),0,none⟩]) (.seq (.ops [oA 38 0 193,oA 39 0 193,⟨some 40,.nilCheck (.tmp 39),0,none⟩,oD 41 172 40 0 0,oC 42 23 41 23,oA 43 6 3,oM 44 23 42 43 0,oD 45 33 44 1 0,oC 46 9 45 9,oV 47 155 38 46 193 9 173,oA 37 47 173,oT 48 37 0 9,oT 49 37 1 88,oB 7 48 9,oB 8 49 88]) (.seq (.draw [] [⟨some 50,.move (.tmp 0),193,none⟩,⟨some 51,.move (.tmp 0),193,none⟩,⟨some 52,.nilCheck (.tmp 51),0,none⟩,⟨some 53,.fieldAddr 172 (.tmp 52) 1,0,none⟩,⟨some 54,.load 27 (.tmp 53),27,none⟩,⟨some 55,.move (.tmp 0),193,none⟩,⟨some 56,.nilCheck (.tmp 55),0,none⟩,⟨some 57,.fieldAddr 172 (.tmp 56) 1,0,none⟩,⟨some 58,.load 27 (.tmp 57),27,none⟩,⟨some 59,.call { callee := .builtin .len,args := #[.tmp 58],argTypes := #[27] },3,none⟩,⟨some 60,.binOp .sub 3 (.tmp 59) (.const (.int .i64 1)) 3,3,none⟩] [⟨some 61,.slice 27 (.tmp 54) none (some (.tmp 60)) none,27,none⟩,⟨some 62,.nilCheck (.tmp 50),0,none⟩,⟨some 63,.fieldAddr 172 (.tmp 62) 1,0,none⟩,⟨none,.store 27 (.tmp 63) (.tmp 61),0,none⟩]) (.seq (.ops [oA 64 7 9,oA 65 8 88,oB 4 64 9,oB 5 65 88]) (.ret))))
@[simp] theorem ykh : type_of% (zaa q181c0.eq_1) := zaa rfl
def q181c1 : zab := .seq (.seq (.draw [] [⟨some 19,.move (.tmp 0),193,none⟩,⟨some 20,.nilCheck (.tmp 19),0,none⟩,⟨some 21,.fieldAddr 172 (.tmp 20) 1,0,none⟩,⟨some 22,.load 27 (.tmp 21),27,none⟩,⟨some 23,.load 9 (.tmp 3),9,none⟩] [⟨some 24,.call { callee := .value (.func 152),args := #[.tmp 22,.tmp 23],argTypes := #[27,9] },4,none⟩]) (.cond (.tmp 24) (.seq (.ops [⟨some 25,.build 195 #[(0,.const (.int .i64 4))],195,none⟩,⟨some 26,.makeInterface 195 (.tmp 25),88,none⟩,oO 4 9,oB 5 26 88]) (.ret)) (.skip))) (q181c0)
@[simp] theorem yki : type_of% (zaa q181c1.eq_1) := zaa rfl
@[simp] def q181 : QFn := ⟨66,[(.tmp 4,9),(.tmp 5,88)],.seq (.ops [oN 3 9 1 0,oO 4 9,⟨some 5,.assign (.const .nilIface),88,none⟩]) (.seq (.ops [oA 9 0 193,⟨some 10,.nilCheck (.tmp 9),0,none⟩,oD 11 172 10 0 0,oC 12 23 11 23,⟨some 13,.makeFunc (.func 200) #[] #[.tmp 3],115,none⟩,oV 14 179 12 13 23 115 3,oB 6 14 3]) (.seq (.seq (.ops [oA 15 6 3,oW 16 3 15 0 3 4]) (.cond (.tmp 16) (.seq (.ops [⟨some 17,.build 195 #[(0,.const (.int .i64 3))],195,none⟩,⟨some 18,.makeInterface 195 (.tmp 17),88,none⟩,oO 4 9,oB 5 18 88]) (.ret)) (.skip))) (q181c1)))⟩
theorem ykj : zan Tryz.f181 = some q181 := by kernel_rfl
abbrev ykk : FuncId := 183
def q183c0 : zab := .block 1 (.ops [oA 24 3 3,oH 25 3 24 1 3 3,oB 3 25 3])
@[simp] theorem ykl : type_of% (zaa q183c0.eq_1) := zaa rfl
def q183l0 : zab := .seq (.seq (.ops [oA 14 3 3,oA 15 0 9,oF 16 15 9 3,oI 17 3 14 16 3 4,oA 18 17 4,oQ 19 0 9 18,oQ 20 3 3 18,⟨some 21,.index 9 (.tmp 19) (.tmp 20),5,some (18,true)⟩,oAN 22 157 21 5 4 18,oU 23 18 22 4]) (.cond (.tmp 23) (.skip) (.exit 0))) (q183c0)
@[simp] theorem ykm : type_of% (zaa q183l0.eq_1) := zaa rfl
def q183c1 : zab := .seq (.ops [oA 41 3 3,oH 42 3 41 1 3 3,oB 2 42 3]) (.ret)
@[simp] theorem ykn : type_of% (zaa q183c1.eq_1) := zaa rfl
def q183c2 : zab := .seq (.seq (.ops [oA 26 3 3,oA 27 4 3,⟨some 28,.binOp .eql 3 (.tmp 26) (.tmp 27) 3,4,none⟩,oA 29 28 4,oK 30 3 3 29,oK 31 0 9 29,oAR 32 31 9 3 29,⟨some 33,.binOp .eql 3 (.tmp 30) (.tmp 32) 3,4,some (29,false)⟩,oP 34 29 33 4,oA 35 34 4,oK 36 0 9 35,oK 37 3 3 35,oAO 38 9 36 37 5 35,⟨some 39,.binOp .neq 5 (.tmp 38) (.const (.int .u8 93)) 5,4,some (35,false)⟩,oP 40 35 39 4]) (.cond (.tmp 40) (.seq (.ops [oG 2 0 3]) (.ret)) (.skip))) (q183c1)
@[simp] theorem yko : type_of% (zaa q183c2.eq_1) := zaa rfl
def q183c3 : zab := .seq (.ops [oA 13 3 3,oB 4 13 3]) (.seq (.block 0 (.loop q183l0)) (q183c2))
@[simp] theorem zt2 : type_of% (zaa q183c3.eq_1) := zaa rfl
@[simp] def q183 : QFn := ⟨43,[(.tmp 2,3)],.seq (.ops [oG 2 0 3]) (.seq (.ops [oG 3 1 3]) (.seq (.seq (.ops [oA 5 0 9,oF 6 5 9 3,oAP 7 3 6 1 3 4,oA 8 7 4,oQ 9 0 9 8,⟨some 10,.index 9 (.tmp 9) (.const (.int .i64 1)),5,some (8,true)⟩,⟨some 11,.binOp .eql 5 (.tmp 10) (.const (.int .u8 33)) 5,4,some (8,true)⟩,oU 12 8 11 4]) (.cond (.tmp 12) (.ops [oG 3 2 3]) (.skip))) (q183c3)))⟩
theorem ykp : zan Tryz.f183 = some q183 := by kernel_rfl
abbrev ykq : FuncId := 184
def q184c0 : zab := .ops [oA 25 3 3,⟨some 26,.binOp .mul 3 (.tmp 25) (.const (.int .i64 10)) 3,3,none⟩,oA 27 0 9,oA 28 4 3,oAH 29 9 27 28 5,⟨some 30,.binOp .sub 5 (.tmp 29) (.const (.int .u8 48)) 5,5,none⟩,⟨some 31,.convert 5 3 (.tmp 30),3,none⟩,oAK 32 3 26 31 3 3,oB 3 32 3]
@[simp] theorem ykr : type_of% (zaa q184c0.eq_1) := zaa rfl
def q184c1 : zab := .ops [oA 9 4 3,oH 10 3 9 1 3 3,oB 4 10 3]
@[simp] theorem yks : type_of% (zaa q184c1.eq_1) := zaa rfl
def q184c2 : zab := .seq (.block 1 (.seq (.seq (.ops [oA 11 0 9,oA 12 4 3,oAH 13 9 11 12 5,⟨some 14,.binOp .lss 5 (.tmp 13) (.const (.int .u8 48)) 5,4,none⟩,oA 15 14 4,oK 16 0 9 15,oK 17 4 3 15,oAO 18 9 16 17 5 15,oAS 19 5 18 57 5 4 15,oP 20 15 19 4,oA 21 20 4,oK 22 4 3 21,⟨some 23,.binOp .geq 3 (.tmp 22) (.const (.int .i64 6)) 3,4,some (21,false)⟩,oP 24 21 23 4]) (.cond (.tmp 24) (.seq (.ops [oX 2 3]) (.ret)) (.skip))) (q184c0))) (q184c1)
@[simp] theorem ykt : type_of% (zaa q184c2.eq_1) := zaa rfl
def q184l0 : zab := .seq (.seq (.ops [oA 5 4 3,oA 6 0 9,oF 7 6 9 3,oI 8 3 5 7 3 4]) (.cond (.tmp 8) (.skip) (.exit 0))) (q184c2)
@[simp] theorem yku : type_of% (zaa q184l0.eq_1) := zaa rfl
def q184c3 : zab := .seq (.ops [oA 46 3 3,oB 2 46 3]) (.ret)
@[simp] theorem ykv : type_of% (zaa q184c3.eq_1) := zaa rfl
def q184c4 : zab := .seq (.seq (.ops [oA 33 0 9,oF 34 33 9 3,oAM 35 3 34 0 3 4,oA 36 35 4,oK 37 0 9 36,oAR 38 37 9 3 36,⟨some 39,.binOp .gtr 3 (.tmp 38) (.const (.int .i64 1)) 3,4,some (36,false)⟩,oK 40 39 4 36,oQ 41 0 9 40,⟨some 42,.index 9 (.tmp 41) (.const (.int .i64 0)),5,some (40,true)⟩,⟨some 43,.binOp .eql 5 (.tmp 42) (.const (.int .u8 48)) 5,4,some (40,true)⟩,⟨some 44,.pick (.tmp 40) (.tmp 43) (.const (.bool false)),4,some (36,false)⟩,oP 45 36 44 4]) (.cond (.tmp 45) (.seq (.ops [oX 2 3]) (.ret)) (.skip))) (q184c3)
@[simp] theorem ykw : type_of% (zaa q184c4.eq_1) := zaa rfl
@[simp] def q184 : QFn := ⟨47,[(.tmp 2,3)],.seq (.ops [oG 2 0 3]) (.seq (.ops [oG 3 0 3]) (.seq (.seq (.ops [oG 4 0 3]) (.block 0 (.loop q184l0))) (q184c4)))⟩
theorem ykx : zan Tryz.f184 = some q184 := by kernel_rfl
abbrev yah : FuncId := 192
@[simp] def q192 : QFn := ⟨18,[(.tmp 4,4)],.seq (.ops [oE 4 4]) (.seq (.ops [oA 5 0 9,oF 6 5 9 3,oA 7 1 9,oF 8 7 9 3,⟨some 9,.binOp .geq 3 (.tmp 6) (.tmp 8) 3,4,none⟩,oA 10 9 4,oQ 11 0 9 10,oQ 12 1 9 10,oAU 13 12 9 3 10,⟨some 14,.slice 9 (.tmp 11) none (some (.tmp 13)) none,9,some (10,true)⟩,oQ 15 1 9 10,⟨some 16,.binOp .eql 9 (.tmp 14) (.tmp 15) 9,4,some (10,true)⟩,oU 17 10 16 4,oB 4 17 4]) (.ret))⟩
theorem yai : zan Tryz.f192 = some q192 := by kernel_rfl
abbrev yky : FuncId := 195
@[simp] def q195 : QFn := ⟨29,[(.tmp 2,4)],.seq (.ops [oE 2 4]) (.seq (.ops [oA 3 0 5,⟨some 4,.binOp .geq 5 (.tmp 3) (.const (.int .u8 97)) 5,4,none⟩,oA 5 4 4,oQ 6 0 5 5,oAT 7 5 6 122 5 4 5,oU 8 5 7 4,oA 9 8 4,oK 10 0 5 9,⟨some 11,.binOp .geq 5 (.tmp 10) (.const (.int .u8 48)) 5,4,some (9,false)⟩,oK 12 11 4 9,oQ 13 0 5 12,oAT 14 5 13 57 5 4 12,⟨some 15,.pick (.tmp 12) (.tmp 14) (.const (.bool false)),4,some (9,false)⟩,oP 16 9 15 4,oA 17 16 4,oK 18 0 5 17,⟨some 19,.binOp .eql 5 (.tmp 18) (.const (.int .u8 46)) 5,4,some (17,false)⟩,oP 20 17 19 4,oA 21 20 4,oK 22 0 5 21,⟨some 23,.binOp .eql 5 (.tmp 22) (.const (.int .u8 95)) 5,4,some (21,false)⟩,oP 24 21 23 4,oA 25 24 4,oK 26 0 5 25,⟨some 27,.binOp .eql 5 (.tmp 26) (.const (.int .u8 45)) 5,4,some (25,false)⟩,oP 28 25 27 4,oB 2 28 4]) (.ret))⟩
theorem ykz : zan Tryz.f195 = some q195 := by kernel_rfl
abbrev yk0 : FuncId := 196
def q196c0 : zab := .ops [oC 40 241 9 241,oA 41 8 3,oH 42 3 41 1 3 3,oL 241 7 40 0,oB 6 42 3]
@[simp] theorem yk1 : type_of% (zaa q196c0.eq_1) := zaa rfl
def q196c1 : zab := .seq (.ops [oA 32 0 9,oA 33 8 3,⟨some 34,.slice 9 (.tmp 32) (some (.const (.int .i64 1))) (some (.tmp 33)) none,9,none⟩,oJ 35 215 34 9 242,oA 31 35 242,oT 36 31 0 241,oT 37 31 1 4,oR 9 241 0,oL 241 9 36 0,oB 10 37 4]) (.seq (.seq (.ops [oA 38 10 4,oS 39 4 38 4]) (.cond (.tmp 39) (.seq (.ops [oAB 2 211,oE 3 4]) (.ret)) (.skip))) (q196c0))
@[simp] theorem yk2 : type_of% (zaa q196c1.eq_1) := zaa rfl
def q196c2 : zab := .seq (.ops [oA 48 4 211,oC 49 241 7 241,oAF 50 211 1 0 49 211,oAC 51 48 50 211 211 211,oB 4 51 211]) (.ops [oA 52 0 9,oA 53 6 3,⟨some 54,.slice 9 (.tmp 52) (some (.tmp 53)) none none,9,none⟩,oB 0 54 9])
@[simp] theorem yk3 : type_of% (zaa q196c2.eq_1) := zaa rfl
def q196c3 : zab := .block 1 (.seq (.ops [oA 13 0 9,⟨some 14,.index 9 (.tmp 13) (.const (.int .i64 0)),5,none⟩,oR 5 5 0,oL 5 5 14 0]) (.seq (.ops [oG 6 1 3]) (.seq (.ops [⟨some 15,.build 241 #[],241,none⟩,oR 7 241 0,oL 241 7 15 0]) (.seq (.block 2 (.seq (.ops [oC 17 5 5 5,⟨some 18,.binOp .eql 5 (.tmp 17) (.const (.int .u8 42)) 5,4,none⟩,oB 16 18 4]) (.cond (.tmp 16) (.ops [oD 19 241 7 0 0,⟨none,.store 4 (.tmp 19) (.const (.bool true)),0,none⟩]) (.seq (.ops [oC 21 5 5 5,⟨some 22,.binOp .eql 5 (.tmp 21) (.const (.int .u8 63)) 5,4,none⟩,oB 20 22 4]) (.cond (.tmp 20) (.ops [oD 23 241 7 1 0,⟨none,.store 176 (.tmp 23) (.func 214),0,none⟩]) (.seq (.ops [oC 25 5 5 5,⟨some 26,.binOp .eql 5 (.tmp 25) (.const (.int .u8 91)) 5,4,none⟩,oB 24 26 4]) (.cond (.tmp 24) (.seq (.ops [oA 27 0 9,⟨some 28,.call { callee := .value (.func 209),args := #[.tmp 27,.const (.int .u8 93)],argTypes := #[9,5] },3,none⟩,oB 8 28 3]) (.seq (.seq (.ops [oA 29 8 3,oW 30 3 29 0 3 4]) (.cond (.tmp 30) (.seq (.ops [oAB 2 211,oE 3 4]) (.ret)) (.skip))) (q196c1))) (.seq (.ops [oC 44 5 5 5,oJ 45 195 44 5 4,oB 43 45 4]) (.cond (.tmp 43) (.ops [⟨some 46,.makeFunc (.func 216) #[] #[.tmp 5],176,none⟩,oD 47 241 7 1 0,oL 176 47 46 0]) (.seq (.ops [oAB 2 211,oE 3 4]) (.ret))))))))))) (q196c2)))))
@[simp] theorem yk4 : type_of% (zaa q196c3.eq_1) := zaa rfl
def q196l0 : zab := .seq (.seq (.ops [oA 11 0 9,⟨some 12,.binOp .neq 9 (.tmp 11) (.const (.string { data := #[] })) 9,4,none⟩]) (.cond (.tmp 12) (.skip) (.exit 0))) (q196c3)
@[simp] theorem yk5 : type_of% (zaa q196l0.eq_1) := zaa rfl
def q196c4 : zab := .seq (.ops [oA 55 4 211,oA 56 4 211,oF 57 56 211 3,oAP 58 3 57 0 3 4,oB 2 55 211,oB 3 58 4]) (.ret)
@[simp] theorem yk6 : type_of% (zaa q196c4.eq_1) := zaa rfl
@[simp] def q196 : QFn := ⟨59,[(.tmp 2,211),(.tmp 3,4)],.seq (.ops [oAB 2 211,oE 3 4]) (.seq (.ops [oAB 4 211]) (.seq (.block 0 (.loop q196l0)) (q196c4)))⟩
theorem yk7 : zan Tryz.f196 = some q196 := by kernel_rfl
abbrev yk8 : FuncId := 199
@[simp] def q199 : QFn := ⟨8,[(.tmp 4,9)],.seq (.ops [oO 4 9]) (.seq (.ops [oA 5 0 9,oA 6 1 9,oV 7 217 5 6 9 9 9,oB 4 7 9]) (.ret))⟩
theorem yk9 : zan Tryz.f199 = some q199 := by kernel_rfl
abbrev yla : FuncId := 200
@[simp] def q200 : QFn := ⟨8,[(.tmp 3,4)],.seq (.ops [oN 2 33 0 0,oE 3 4]) (.seq (.ops [oD 4 33 2 0 0,oC 5 9 4 9,oC 6 9 1 9,⟨some 7,.binOp .eql 9 (.tmp 5) (.tmp 6) 9,4,none⟩,oB 3 7 4]) (.ret))⟩
theorem ylb : zan Tryz.f200 = some q200 := by kernel_rfl
abbrev ylc : FuncId := 215
def q215c0 : zab := .seq (.ops [⟨some 16,.makeFunc (.func 224) #[] #[.tmp 4,.tmp 5],176,none⟩,oB 6 16 176]) (.seq (.ops [oA 17 6 176,⟨some 18,.build 241 #[(1,.tmp 17)],241,none⟩,oL 241 2 18 0,oY 3 4]) (.ret))
@[simp] theorem yld : type_of% (zaa q215c0.eq_1) := zaa rfl
@[simp] def q215 : QFn := ⟨19,[(.cell 2 241,241),(.tmp 3,4)],.seq (.ops [oR 2 241 0,oE 3 4]) (.seq (.ops [oA 8 0 9,⟨some 9,.call { callee := .value (.func 223),args := #[.tmp 8,.const (.string { data := #[33] })],argTypes := #[9,9] },101,none⟩,oA 7 9 101,oT 10 7 0 9,oT 11 7 1 4,oR 4 9 0,oR 5 4 0,oL 9 4 10 0,oL 4 5 11 0]) (.seq (.seq (.ops [oC 12 9 4 9,oJ 13 175 12 9 4,oS 14 4 13 4]) (.cond (.tmp 14) (.seq (.ops [⟨some 15,.build 241 #[],241,none⟩,oL 241 2 15 0,oE 3 4]) (.ret)) (.skip))) (q215c0)))⟩
theorem yle : zan Tryz.f215 = some q215 := by kernel_rfl
abbrev ylf : FuncId := 217
def yaj : zab := .seq (.ops [oA 12 0 9,oB 4 12 9]) (.ret)
@[simp] def q217 : QFn := ⟨13,[(.tmp 4,9)],.seq (.ops [oO 4 9]) (.seq (.seq (.ops [oA 5 0 9,oA 6 1 9,oV 7 192 5 6 9 9 4]) (.cond (.tmp 7) (.seq (.ops [oA 8 0 9,oA 9 1 9,oF 10 9 9 3,⟨some 11,.slice 9 (.tmp 8) (some (.tmp 10)) none none,9,none⟩,oB 4 11 9]) (.ret)) (.skip))) (yaj))⟩
theorem ylg : zan Tryz.f217 = some q217 := by kernel_rfl
abbrev ylh : FuncId := 223
@[simp] def q223 : QFn := ⟨11,[(.tmp 4,9),(.tmp 5,4)],.seq (.ops [oO 4 9,oE 5 4]) (.seq (.ops [oA 6 0 9,oA 7 1 9,oV 8 225 6 7 9 9 101,oT 9 8 0 9,oT 10 8 1 4,oB 4 9 9,oB 5 10 4]) (.ret))⟩
theorem yli : zan Tryz.f223 = some q223 := by kernel_rfl
abbrev ylj : FuncId := 225
def q225c0 : zab := .seq (.ops [oA 11 0 9,oA 12 1 9,oF 13 12 9 3,⟨some 14,.slice 9 (.tmp 11) (some (.tmp 13)) none none,9,none⟩,oB 4 14 9,oY 5 4]) (.ret)
@[simp] theorem ylk : type_of% (zaa q225c0.eq_1) := zaa rfl
@[simp] def q225 : QFn := ⟨15,[(.tmp 4,9),(.tmp 5,4)],.seq (.ops [oO 4 9,oE 5 4]) (.seq (.seq (.ops [oA 6 0 9,oA 7 1 9,oV 8 192 6 7 9 9 4,oS 9 4 8 4]) (.cond (.tmp 9) (.seq (.ops [oA 10 0 9,oB 4 10 9,oE 5 4]) (.ret)) (.skip))) (q225c0))⟩
theorem yll : zan Tryz.f225 = some q225 := by kernel_rfl
end Go.Qz
