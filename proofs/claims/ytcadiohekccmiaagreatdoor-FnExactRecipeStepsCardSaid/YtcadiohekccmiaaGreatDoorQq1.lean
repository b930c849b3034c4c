import Derived.Test.YtcadiohekccmiaaGreatDoorQq0
namespace Go.Qz
open Go.Proofs
def oA (a b c : Nat) : QOp := ⟨some a, .move (.tmp b), c, none⟩
@[simp] theorem oAdst (a b c : Nat) : (oA a b c).dst = some a := (rfl)
@[simp] theorem oAop (a b c : Nat) : (oA a b c).op = .move (.tmp b) := (rfl)
@[simp] theorem oAty (a b c : Nat) : (oA a b c).ty = c := (rfl)
@[simp] theorem oAg (a b c : Nat) : (oA a b c).g = none := (rfl)
def oB (a b c : Nat) : QOp := ⟨some a, .assign (.tmp b), c, none⟩
@[simp] theorem oBdst (a b c : Nat) : (oB a b c).dst = some a := (rfl)
@[simp] theorem oBop (a b c : Nat) : (oB a b c).op = .assign (.tmp b) := (rfl)
@[simp] theorem oBty (a b c : Nat) : (oB a b c).ty = c := (rfl)
@[simp] theorem oBg (a b c : Nat) : (oB a b c).g = none := (rfl)
def oC (a b c d : Nat) : QOp := ⟨some a, .load b (.tmp c), d, none⟩
@[simp] theorem oCdst (a b c d : Nat) : (oC a b c d).dst = some a := (rfl)
@[simp] theorem oCop (a b c d : Nat) : (oC a b c d).op = .load b (.tmp c) := (rfl)
@[simp] theorem oCty (a b c d : Nat) : (oC a b c d).ty = d := (rfl)
@[simp] theorem oCg (a b c d : Nat) : (oC a b c d).g = none := (rfl)
def oD (a b c d e : Nat) : QOp := ⟨some a, .fieldAddr b (.tmp c) d, e, none⟩
@[simp] theorem oDdst (a b c d e : Nat) : (oD a b c d e).dst = some a := (rfl)
@[simp] theorem oDop (a b c d e : Nat) : (oD a b c d e).op = .fieldAddr b (.tmp c) d := (rfl)
@[simp] theorem oDty (a b c d e : Nat) : (oD a b c d e).ty = e := (rfl)
@[simp] theorem oDg (a b c d e : Nat) : (oD a b c d e).g = none := (rfl)
def oE (a b : Nat) : QOp := ⟨some a, .assign (.const (.bool false)), b, none⟩
@[simp] theorem oEdst (a b : Nat) : (oE a b).dst = some a := (rfl)
@[simp] theorem oEop (a b : Nat) : (oE a b).op = .assign (.const (.bool false)) := (rfl)
@[simp] theorem oEty (a b : Nat) : (oE a b).ty = b := (rfl)
@[simp] theorem oEg (a b : Nat) : (oE a b).g = none := (rfl)
def oF (a b c d : Nat) : QOp := ⟨some a, .call { callee := .builtin .len, args := #[.tmp b], argTypes := #[c] }, d, none⟩
@[simp] theorem oFdst (a b c d : Nat) : (oF a b c d).dst = some a := (rfl)
@[simp] theorem oFop (a b c d : Nat) : (oF a b c d).op = .call { callee := .builtin .len, args := #[.tmp b], argTypes := #[c] } := (rfl)
@[simp] theorem oFty (a b c d : Nat) : (oF a b c d).ty = d := (rfl)
@[simp] theorem oFg (a b c d : Nat) : (oF a b c d).g = none := (rfl)
def oG (a : Nat) (b : Int) (c : Nat) : QOp := ⟨some a, .assign (.const (.int .i64 b)), c, none⟩
@[simp] theorem oGdst (a : Nat) (b : Int) (c : Nat) : (oG a b c).dst = some a := (rfl)
@[simp] theorem oGop (a : Nat) (b : Int) (c : Nat) : (oG a b c).op = .assign (.const (.int .i64 b)) := (rfl)
@[simp] theorem oGty (a : Nat) (b : Int) (c : Nat) : (oG a b c).ty = c := (rfl)
@[simp] theorem oGg (a : Nat) (b : Int) (c : Nat) : (oG a b c).g = none := (rfl)
def oH (a : Nat) (b : Nat) (c : Nat) (d : Int) (e : Nat) (f : Nat) : QOp := ⟨some a, .binOp .add b (.tmp c) (.const (.int .i64 d)) e, f, none⟩
@[simp] theorem oHdst (a : Nat) (b : Nat) (c : Nat) (d : Int) (e : Nat) (f : Nat) : (oH a b c d e f).dst = some a := (rfl)
@[simp] theorem oHop (a : Nat) (b : Nat) (c : Nat) (d : Int) (e : Nat) (f : Nat) : (oH a b c d e f).op = .binOp .add b (.tmp c) (.const (.int .i64 d)) e := (rfl)
@[simp] theorem oHty (a : Nat) (b : Nat) (c : Nat) (d : Int) (e : Nat) (f : Nat) : (oH a b c d e f).ty = f := (rfl)
@[simp] theorem oHg (a : Nat) (b : Nat) (c : Nat) (d : Int) (e : Nat) (f : Nat) : (oH a b c d e f).g = none := (rfl)
def oI (a b c d e : Nat) : QOp := ⟨some a, .call { callee := .value (.func b), args := #[.tmp c], argTypes := #[d] }, e, none⟩
@[simp] theorem oIdst (a b c d e : Nat) : (oI a b c d e).dst = some a := (rfl)
@[simp] theorem oIop (a b c d e : Nat) : (oI a b c d e).op = .call { callee := .value (.func b), args := #[.tmp c], argTypes := #[d] } := (rfl)
@[simp] theorem oIty (a b c d e : Nat) : (oI a b c d e).ty = e := (rfl)
@[simp] theorem oIg (a b c d e : Nat) : (oI a b c d e).g = none := (rfl)
def oJ (a b c d e f : Nat) : QOp := ⟨some a, .binOp .lss b (.tmp c) (.tmp d) e, f, none⟩
@[simp] theorem oJdst (a b c d e f : Nat) : (oJ a b c d e f).dst = some a := (rfl)
@[simp] theorem oJop (a b c d e f : Nat) : (oJ a b c d e f).op = .binOp .lss b (.tmp c) (.tmp d) e := (rfl)
@[simp] theorem oJty (a b c d e f : Nat) : (oJ a b c d e f).ty = f := (rfl)
@[simp] theorem oJg (a b c d e f : Nat) : (oJ a b c d e f).g = none := (rfl)
def oK (a b c d : Nat) : QOp := ⟨some a, .move (.tmp b), c, some (d, false)⟩
@[simp] theorem oKdst (a b c d : Nat) : (oK a b c d).dst = some a := (rfl)
@[simp] theorem oKop (a b c d : Nat) : (oK a b c d).op = .move (.tmp b) := (rfl)
@[simp] theorem oKty (a b c d : Nat) : (oK a b c d).ty = c := (rfl)
@[simp] theorem oKg (a b c d : Nat) : (oK a b c d).g = some (d, false) := (rfl)
def oL (a b c d : Nat) : QOp := ⟨none, .store a (.tmp b) (.tmp c), d, none⟩
@[simp] theorem oLdst (a b c d : Nat) : (oL a b c d).dst = none := (rfl)
@[simp] theorem oLop (a b c d : Nat) : (oL a b c d).op = .store a (.tmp b) (.tmp c) := (rfl)
@[simp] theorem oLty (a b c d : Nat) : (oL a b c d).ty = d := (rfl)
@[simp] theorem oLg (a b c d : Nat) : (oL a b c d).g = none := (rfl)
def oM (a b c d e : Nat) : QOp := ⟨some a, .indexAddr b (.tmp c) (.tmp d), e, none⟩
@[simp] theorem oMdst (a b c d e : Nat) : (oM a b c d e).dst = some a := (rfl)
@[simp] theorem oMop (a b c d e : Nat) : (oM a b c d e).op = .indexAddr b (.tmp c) (.tmp d) := (rfl)
@[simp] theorem oMty (a b c d e : Nat) : (oM a b c d e).ty = e := (rfl)
@[simp] theorem oMg (a b c d e : Nat) : (oM a b c d e).g = none := (rfl)
def oN (a b c d e f g : Nat) : QOp := ⟨some a, .call { callee := .value (.func b), args := #[.tmp c, .tmp d], argTypes := #[e, f] }, g, none⟩
@[simp] theorem oNdst (a b c d e f g : Nat) : (oN a b c d e f g).dst = some a := (rfl)
@[simp] theorem oNop (a b c d e f g : Nat) : (oN a b c d e f g).op = .call { callee := .value (.func b), args := #[.tmp c, .tmp d], argTypes := #[e, f] } := (rfl)
@[simp] theorem oNty (a b c d e f g : Nat) : (oN a b c d e f g).ty = g := (rfl)
@[simp] theorem oNg (a b c d e f g : Nat) : (oN a b c d e f g).g = none := (rfl)
def oO (a b c d : Nat) : QOp := ⟨some a, .box b (.tmp c), d, none⟩
@[simp] theorem oOdst (a b c d : Nat) : (oO a b c d).dst = some a := (rfl)
@[simp] theorem oOop (a b c d : Nat) : (oO a b c d).op = .box b (.tmp c) := (rfl)
@[simp] theorem oOty (a b c d : Nat) : (oO a b c d).ty = d := (rfl)
@[simp] theorem oOg (a b c d : Nat) : (oO a b c d).g = none := (rfl)
def oP (a b c d : Nat) : QOp := ⟨some a, .pick (.tmp b) (.const (.bool true)) (.tmp c), d, none⟩
@[simp] theorem oPdst (a b c d : Nat) : (oP a b c d).dst = some a := (rfl)
@[simp] theorem oPop (a b c d : Nat) : (oP a b c d).op = .pick (.tmp b) (.const (.bool true)) (.tmp c) := (rfl)
@[simp] theorem oPty (a b c d : Nat) : (oP a b c d).ty = d := (rfl)
@[simp] theorem oPg (a b c d : Nat) : (oP a b c d).g = none := (rfl)
def oQ (a b c d : Nat) : QOp := ⟨some a, .move (.tmp b), c, some (d, true)⟩
@[simp] theorem oQdst (a b c d : Nat) : (oQ a b c d).dst = some a := (rfl)
@[simp] theorem oQop (a b c d : Nat) : (oQ a b c d).op = .move (.tmp b) := (rfl)
@[simp] theorem oQty (a b c d : Nat) : (oQ a b c d).ty = c := (rfl)
@[simp] theorem oQg (a b c d : Nat) : (oQ a b c d).g = some (d, true) := (rfl)
def oR (a b c d : Nat) : QOp := ⟨some a, .unOp .not b (.tmp c), d, none⟩
@[simp] theorem oRdst (a b c d : Nat) : (oR a b c d).dst = some a := (rfl)
@[simp] theorem oRop (a b c d : Nat) : (oR a b c d).op = .unOp .not b (.tmp c) := (rfl)
@[simp] theorem oRty (a b c d : Nat) : (oR a b c d).ty = d := (rfl)
@[simp] theorem oRg (a b c d : Nat) : (oR a b c d).g = none := (rfl)
def oS (a b c d : Nat) : QOp := ⟨some a, .extract (.tmp b) c, d, none⟩
@[simp] theorem oSdst (a b c d : Nat) : (oS a b c d).dst = some a := (rfl)
@[simp] theorem oSop (a b c d : Nat) : (oS a b c d).op = .extract (.tmp b) c := (rfl)
@[simp] theorem oSty (a b c d : Nat) : (oS a b c d).ty = d := (rfl)
@[simp] theorem oSg (a b c d : Nat) : (oS a b c d).g = none := (rfl)
def oT (a b : Nat) : QOp := ⟨some a, .assign (.const (.string { data := #[] })), b, none⟩
@[simp] theorem oTdst (a b : Nat) : (oT a b).dst = some a := (rfl)
@[simp] theorem oTop (a b : Nat) : (oT a b).op = .assign (.const (.string { data := #[] })) := (rfl)
@[simp] theorem oTty (a b : Nat) : (oT a b).ty = b := (rfl)
@[simp] theorem oTg (a b : Nat) : (oT a b).g = none := (rfl)
def oU (a b c d : Nat) : QOp := ⟨some a, .pick (.tmp b) (.tmp c) (.const (.bool false)), d, none⟩
@[simp] theorem oUdst (a b c d : Nat) : (oU a b c d).dst = some a := (rfl)
@[simp] theorem oUop (a b c d : Nat) : (oU a b c d).op = .pick (.tmp b) (.tmp c) (.const (.bool false)) := (rfl)
@[simp] theorem oUty (a b c d : Nat) : (oU a b c d).ty = d := (rfl)
@[simp] theorem oUg (a b c d : Nat) : (oU a b c d).g = none := (rfl)
def oV (a : Nat) (b : Nat) (c : Nat) (d : Int) (e : Nat) (f : Nat) : QOp := ⟨some a, .binOp .lss b (.tmp c) (.const (.int .i64 d)) e, f, none⟩
@[simp] theorem oVdst (a : Nat) (b : Nat) (c : Nat) (d : Int) (e : Nat) (f : Nat) : (oV a b c d e f).dst = some a := (rfl)
@[simp] theorem oVop (a : Nat) (b : Nat) (c : Nat) (d : Int) (e : Nat) (f : Nat) : (oV a b c d e f).op = .binOp .lss b (.tmp c) (.const (.int .i64 d)) e := (rfl)
@[simp] theorem oVty (a : Nat) (b : Nat) (c : Nat) (d : Int) (e : Nat) (f : Nat) : (oV a b c d e f).ty = f := (rfl)
@[simp] theorem oVg (a : Nat) (b : Nat) (c : Nat) (d : Int) (e : Nat) (f : Nat) : (oV a b c d e f).g = none := (rfl)
def oW (a b c : Nat) : QOp := ⟨some a, .alloc b, c, none⟩
@[simp] theorem oWdst (a b c : Nat) : (oW a b c).dst = some a := (rfl)
@[simp] theorem oWop (a b c : Nat) : (oW a b c).op = .alloc b := (rfl)
@[simp] theorem oWty (a b c : Nat) : (oW a b c).ty = c := (rfl)
@[simp] theorem oWg (a b c : Nat) : (oW a b c).g = none := (rfl)
def oX (a b : Nat) : QOp := ⟨some a, .assign (.const (.int .i64 (-1))), b, none⟩
@[simp] theorem oXdst (a b : Nat) : (oX a b).dst = some a := (rfl)
@[simp] theorem oXop (a b : Nat) : (oX a b).op = .assign (.const (.int .i64 (-1))) := (rfl)
@[simp] theorem oXty (a b : Nat) : (oX a b).ty = b := (rfl)
@[simp] theorem oXg (a b : Nat) : (oX a b).g = none := (rfl)
def oY (a b : Nat) : QOp := ⟨some a, .assign (.const (.bool true)), b, none⟩
@[simp] theorem oYdst (a b : Nat) : (oY a b).dst = some a := (rfl)
@[simp] theorem oYop (a b : Nat) : (oY a b).op = .assign (.const (.bool true)) := (rfl)
@[simp] theorem oYty (a b : Nat) : (oY a b).ty = b := (rfl)
@[simp] theorem oYg (a b : Nat) : (oY a b).g = none := (rfl)
def oZ (a b : Nat) : QOp := ⟨some a, .assign (.const (.slice none 0 0)), b, none⟩
@[simp] theorem oZdst (a b : Nat) : (oZ a b).dst = some a := (rfl)
@[simp] theorem oZop (a b : Nat) : (oZ a b).op = .assign (.const (.slice none 0 0)) := (rfl)
@[simp] theorem oZty (a b : Nat) : (oZ a b).ty = b := (rfl)
@[simp] theorem oZg (a b : Nat) : (oZ a b).g = none := (rfl)
def oAA (a b c d e f : Nat) : QOp := ⟨some a, .buildSlice b c #[(d, .tmp e)], f, none⟩
@[simp] theorem oAAdst (a b c d e f : Nat) : (oAA a b c d e f).dst = some a := (rfl)
@[simp] theorem oAAop (a b c d e f : Nat) : (oAA a b c d e f).op = .buildSlice b c #[(d, .tmp e)] := (rfl)
@[simp] theorem oAAty (a b c d e f : Nat) : (oAA a b c d e f).ty = f := (rfl)
@[simp] theorem oAAg (a b c d e f : Nat) : (oAA a b c d e f).g = none := (rfl)
def oAB (a b c d e f : Nat) : QOp := ⟨some a, .call { callee := .builtin .append, args := #[.tmp b, .tmp c], argTypes := #[d, e] }, f, none⟩
@[simp] theorem oABdst (a b c d e f : Nat) : (oAB a b c d e f).dst = some a := (rfl)
@[simp] theorem oABop (a b c d e f : Nat) : (oAB a b c d e f).op = .call { callee := .builtin .append, args := #[.tmp b, .tmp c], argTypes := #[d, e] } := (rfl)
@[simp] theorem oABty (a b c d e f : Nat) : (oAB a b c d e f).ty = f := (rfl)
@[simp] theorem oABg (a b c d e f : Nat) : (oAB a b c d e f).g = none := (rfl)
def oAC (a b c d e f : Nat) : QOp := ⟨some a, .fieldAddr b (.tmp c) d, e, some (f, true)⟩
@[simp] theorem oACdst (a b c d e f : Nat) : (oAC a b c d e f).dst = some a := (rfl)
@[simp] theorem oACop (a b c d e f : Nat) : (oAC a b c d e f).op = .fieldAddr b (.tmp c) d := (rfl)
@[simp] theorem oACty (a b c d e f : Nat) : (oAC a b c d e f).ty = e := (rfl)
@[simp] theorem oACg (a b c d e f : Nat) : (oAC a b c d e f).g = some (f, true) := (rfl)
def oAD (a b c d e : Nat) : QOp := ⟨some a, .load b (.tmp c), d, some (e, true)⟩
@[simp] theorem oADdst (a b c d e : Nat) : (oAD a b c d e).dst = some a := (rfl)
@[simp] theorem oADop (a b c d e : Nat) : (oAD a b c d e).op = .load b (.tmp c) := (rfl)
@[simp] theorem oADty (a b c d e : Nat) : (oAD a b c d e).ty = d := (rfl)
@[simp] theorem oADg (a b c d e : Nat) : (oAD a b c d e).g = some (e, true) := (rfl)
def oAE (a b c d e f : Nat) : QOp := ⟨some a, .binOp .neq b (.tmp c) (.tmp d) e, f, none⟩
@[simp] theorem oAEdst (a b c d e f : Nat) : (oAE a b c d e f).dst = some a := (rfl)
@[simp] theorem oAEop (a b c d e f : Nat) : (oAE a b c d e f).op = .binOp .neq b (.tmp c) (.tmp d) e := (rfl)
@[simp] theorem oAEty (a b c d e f : Nat) : (oAE a b c d e f).ty = f := (rfl)
@[simp] theorem oAEg (a b c d e f : Nat) : (oAE a b c d e f).g = none := (rfl)
def oAF (a : Nat) (b : Int) (c : Nat) : QOp := ⟨some a, .move (.const (.int .i64 b)), c, none⟩
@[simp] theorem oAFdst (a : Nat) (b : Int) (c : Nat) : (oAF a b c).dst = some a := (rfl)
@[simp] theorem oAFop (a : Nat) (b : Int) (c : Nat) : (oAF a b c).op = .move (.const (.int .i64 b)) := (rfl)
@[simp] theorem oAFty (a : Nat) (b : Int) (c : Nat) : (oAF a b c).ty = c := (rfl)
@[simp] theorem oAFg (a : Nat) (b : Int) (c : Nat) : (oAF a b c).g = none := (rfl)
def oAG (a b c d e : Nat) : QOp := ⟨some a, .index b (.tmp c) (.tmp d), e, none⟩
@[simp] theorem oAGdst (a b c d e : Nat) : (oAG a b c d e).dst = some a := (rfl)
@[simp] theorem oAGop (a b c d e : Nat) : (oAG a b c d e).op = .index b (.tmp c) (.tmp d) := (rfl)
@[simp] theorem oAGty (a b c d e : Nat) : (oAG a b c d e).ty = e := (rfl)
@[simp] theorem oAGg (a b c d e : Nat) : (oAG a b c d e).g = none := (rfl)
def oAH (a b c d e f : Nat) : QOp := ⟨some a, .binOp .sub b (.tmp c) (.tmp d) e, f, none⟩
@[simp] theorem oAHdst (a b c d e f : Nat) : (oAH a b c d e f).dst = some a := (rfl)
@[simp] theorem oAHop (a b c d e f : Nat) : (oAH a b c d e f).op = .binOp .sub b (.tmp c) (.tmp d) e := (rfl)
@[simp] theorem oAHty (a b c d e f : Nat) : (oAH a b c d e f).ty = f := (rfl)
@[simp] theorem oAHg (a b c d e f : Nat) : (oAH a b c d e f).g = none := (rfl)
def oAI (a b c d e : Nat) : QOp := ⟨some a, .load b (.tmp c), d, some (e, false)⟩
@[simp] theorem oAIdst (a b c d e : Nat) : (oAI a b c d e).dst = some a := (rfl)
@[simp] theorem oAIop (a b c d e : Nat) : (oAI a b c d e).op = .load b (.tmp c) := (rfl)
@[simp] theorem oAIty (a b c d e : Nat) : (oAI a b c d e).ty = d := (rfl)
@[simp] theorem oAIg (a b c d e : Nat) : (oAI a b c d e).g = some (e, false) := (rfl)
def oAJ (a b c d e f : Nat) : QOp := ⟨some a, .fieldAddr b (.tmp c) d, e, some (f, false)⟩
@[simp] theorem oAJdst (a b c d e f : Nat) : (oAJ a b c d e f).dst = some a := (rfl)
@[simp] theorem oAJop (a b c d e f : Nat) : (oAJ a b c d e f).op = .fieldAddr b (.tmp c) d := (rfl)
@[simp] theorem oAJty (a b c d e f : Nat) : (oAJ a b c d e f).ty = e := (rfl)
@[simp] theorem oAJg (a b c d e f : Nat) : (oAJ a b c d e f).g = some (f, false) := (rfl)
def oAK (a b c d e : Nat) : QOp := ⟨some a, .call { callee := .value (.tmp b), args := #[.tmp c], argTypes := #[d] }, e, none⟩
@[simp] theorem oAKdst (a b c d e : Nat) : (oAK a b c d e).dst = some a := (rfl)
@[simp] theorem oAKop (a b c d e : Nat) : (oAK a b c d e).op = .call { callee := .value (.tmp b), args := #[.tmp c], argTypes := #[d] } := (rfl)
@[simp] theorem oAKty (a b c d e : Nat) : (oAK a b c d e).ty = e := (rfl)
@[simp] theorem oAKg (a b c d e : Nat) : (oAK a b c d e).g = none := (rfl)
def oAL (a b c d e f : Nat) : QOp := ⟨some a, .call { callee := .value (.func b), args := #[.tmp c], argTypes := #[d] }, e, some (f, true)⟩
@[simp] theorem oALdst (a b c d e f : Nat) : (oAL a b c d e f).dst = some a := (rfl)
@[simp] theorem oALop (a b c d e f : Nat) : (oAL a b c d e f).op = .call { callee := .value (.func b), args := #[.tmp c], argTypes := #[d] } := (rfl)
@[simp] theorem oALty (a b c d e f : Nat) : (oAL a b c d e f).ty = e := (rfl)
@[simp] theorem oALg (a b c d e f : Nat) : (oAL a b c d e f).g = some (f, true) := (rfl)
def oAM (a : Nat) (b : Nat) (c : Nat) (d : Int) (e : Nat) (f : Nat) : QOp := ⟨some a, .binOp .gtr b (.tmp c) (.const (.int .i64 d)) e, f, none⟩
@[simp] theorem oAMdst (a : Nat) (b : Nat) (c : Nat) (d : Int) (e : Nat) (f : Nat) : (oAM a b c d e f).dst = some a := (rfl)
@[simp] theorem oAMop (a : Nat) (b : Nat) (c : Nat) (d : Int) (e : Nat) (f : Nat) : (oAM a b c d e f).op = .binOp .gtr b (.tmp c) (.const (.int .i64 d)) e := (rfl)
@[simp] theorem oAMty (a : Nat) (b : Nat) (c : Nat) (d : Int) (e : Nat) (f : Nat) : (oAM a b c d e f).ty = f := (rfl)
@[simp] theorem oAMg (a : Nat) (b : Nat) (c : Nat) (d : Int) (e : Nat) (f : Nat) : (oAM a b c d e f).g = none := (rfl)
def oAN (a b c d e f : Nat) : QOp := ⟨some a, .index b (.tmp c) (.tmp d), e, some (f, false)⟩
@[simp] theorem oANdst (a b c d e f : Nat) : (oAN a b c d e f).dst = some a := (rfl)
@[simp] theorem oANop (a b c d e f : Nat) : (oAN a b c d e f).op = .index b (.tmp c) (.tmp d) := (rfl)
@[simp] theorem oANty (a b c d e f : Nat) : (oAN a b c d e f).ty = e := (rfl)
@[simp] theorem oANg (a b c d e f : Nat) : (oAN a b c d e f).g = some (f, false) := (rfl)
def oAO (a b c d e f : Nat) : QOp := ⟨some a, .call { callee := .value (.func b), args := #[.tmp c], argTypes := #[d] }, e, some (f, false)⟩
@[simp] theorem oAOdst (a b c d e f : Nat) : (oAO a b c d e f).dst = some a := (rfl)
@[simp] theorem oAOop (a b c d e f : Nat) : (oAO a b c d e f).op = .call { callee := .value (.func b), args := #[.tmp c], argTypes := #[d] } := (rfl)
@[simp] theorem oAOty (a b c d e f : Nat) : (oAO a b c d e f).ty = e := (rfl)
@[simp] theorem oAOg (a b c d e f : Nat) : (oAO a b c d e f).g = some (f, false) := (rfl)
def oAP (a b c d e : Nat) : QOp := ⟨some a, .call { callee := .builtin .len, args := #[.tmp b], argTypes := #[c] }, d, some (e, false)⟩
@[simp] theorem oAPdst (a b c d e : Nat) : (oAP a b c d e).dst = some a := (rfl)
@[simp] theorem oAPop (a b c d e : Nat) : (oAP a b c d e).op = .call { callee := .builtin .len, args := #[.tmp b], argTypes := #[c] } := (rfl)
@[simp] theorem oAPty (a b c d e : Nat) : (oAP a b c d e).ty = d := (rfl)
@[simp] theorem oAPg (a b c d e : Nat) : (oAP a b c d e).g = some (e, false) := (rfl)
def oAQ (a : Nat) (b : Nat) (c : Nat) (d : Int) (e : Nat) (f : Nat) (g : Nat) : QOp := ⟨some a, .binOp .gtr b (.tmp c) (.const (.int .u8 d)) e, f, some (g, false)⟩
@[simp] theorem oAQdst (a : Nat) (b : Nat) (c : Nat) (d : Int) (e : Nat) (f : Nat) (g : Nat) : (oAQ a b c d e f g).dst = some a := (rfl)
@[simp] theorem oAQop (a : Nat) (b : Nat) (c : Nat) (d : Int) (e : Nat) (f : Nat) (g : Nat) : (oAQ a b c d e f g).op = .binOp .gtr b (.tmp c) (.const (.int .u8 d)) e := (rfl)
@[simp] theorem oAQty (a : Nat) (b : Nat) (c : Nat) (d : Int) (e : Nat) (f : Nat) (g : Nat) : (oAQ a b c d e f g).ty = f := (rfl)
@[simp] theorem oAQg (a : Nat) (b : Nat) (c : Nat) (d : Int) (e : Nat) (f : Nat) (g : Nat) : (oAQ a b c d e f g).g = some (g, false) := (rfl)
def oAR (a : Nat) (b : Nat) (c : Nat) (d : Int) (e : Nat) (f : Nat) (g : Nat) : QOp := ⟨some a, .binOp .leq b (.tmp c) (.const (.int .u8 d)) e, f, some (g, true)⟩
@[simp] theorem oARdst (a : Nat) (b : Nat) (c : Nat) (d : Int) (e : Nat) (f : Nat) (g : Nat) : (oAR a b c d e f g).dst = some a := (rfl)
@[simp] theorem oARop (a : Nat) (b : Nat) (c : Nat) (d : Int) (e : Nat) (f : Nat) (g : Nat) : (oAR a b c d e f g).op = .binOp .leq b (.tmp c) (.const (.int .u8 d)) e := (rfl)
@[simp] theorem oARty (a : Nat) (b : Nat) (c : Nat) (d : Int) (e : Nat) (f : Nat) (g : Nat) : (oAR a b c d e f g).ty = f := (rfl)
@[simp] theorem oARg (a : Nat) (b : Nat) (c : Nat) (d : Int) (e : Nat) (f : Nat) (g : Nat) : (oAR a b c d e f g).g = some (g, true) := (rfl)
def oAS (a b c d e : Nat) : QOp := ⟨some a, .call { callee := .builtin .len, args := #[.tmp b], argTypes := #[c] }, d, some (e, true)⟩
@[simp] theorem oASdst (a b c d e : Nat) : (oAS a b c d e).dst = some a := (rfl)
@[simp] theorem oASop (a b c d e : Nat) : (oAS a b c d e).op = .call { callee := .builtin .len, args := #[.tmp b], argTypes := #[c] } := (rfl)
@[simp] theorem oASty (a b c d e : Nat) : (oAS a b c d e).ty = d := (rfl)
@[simp] theorem oASg (a b c d e : Nat) : (oAS a b c d e).g = some (e, true) := (rfl)
def oAT (a b c d e f g h : Nat) : QOp := ⟨some a, .call { callee := .value (.func b), args := #[.tmp c, .func d], argTypes := #[e, f] }, g, some (h, true)⟩
@[simp] theorem oATdst (a b c d e f g h : Nat) : (oAT a b c d e f g h).dst = some a := (rfl)
@[simp] theorem oATop (a b c d e f g h : Nat) : (oAT a b c d e f g h).op = .call { callee := .value (.func b), args := #[.tmp c, .func d], argTypes := #[e, f] } := (rfl)
@[simp] theorem oATty (a b c d e f g h : Nat) : (oAT a b c d e f g h).ty = g := (rfl)
@[simp] theorem oATg (a b c d e f g h : Nat) : (oAT a b c d e f g h).g = some (h, true) := (rfl)
def oAU (a : Nat) (b : Nat) (c : Nat) (d : Int) (e : Int) (f : Nat) (g : Nat) (h : Nat) (i : Nat) : QOp := ⟨some a, .call { callee := .value (.func b), args := #[.tmp c, .const (.int .i64 d), .const (.int .i64 e)], argTypes := #[f, g, h] }, i, none⟩
@[simp] theorem oAUdst (a : Nat) (b : Nat) (c : Nat) (d : Int) (e : Int) (f : Nat) (g : Nat) (h : Nat) (i : Nat) : (oAU a b c d e f g h i).dst = some a := (rfl)
@[simp] theorem oAUop (a : Nat) (b : Nat) (c : Nat) (d : Int) (e : Int) (f : Nat) (g : Nat) (h : Nat) (i : Nat) : (oAU a b c d e f g h i).op = .call { callee := .value (.func b), args := #[.tmp c, .const (.int .i64 d), .const (.int .i64 e)], argTypes := #[f, g, h] } := (rfl)
@[simp] theorem oAUty (a : Nat) (b : Nat) (c : Nat) (d : Int) (e : Int) (f : Nat) (g : Nat) (h : Nat) (i : Nat) : (oAU a b c d e f g h i).ty = i := (rfl)
@[simp] theorem oAUg (a : Nat) (b : Nat) (c : Nat) (d : Int) (e : Int) (f : Nat) (g : Nat) (h : Nat) (i : Nat) : (oAU a b c d e f g h i).g = none := (rfl)
theorem run_is {q r : QCode} (h : q = r) (c : Ctx) (e : Env) (ks : List Fr) : Run c q e ks = Run c r e ks := h ▸ rfl
abbrev Fn7 : FuncId := 7
def q7c0 : QCode := .seq (.ops [oY 2 4]) (.ret)
@[simp] theorem q7c0R : type_of% (run_is q7c0.eq_1) := run_is rfl
def q7c1 : QCode := .seq (.seq (.ops [oA 66 9 3, oA 67 8 3, oAE 68 3 66 67 3 4]) (.cond (.tmp 68) (.seq (.ops [oE 2 4]) (.ret)) (.skip))) (q7c0)
@[simp] theorem q7c1R : type_of% (run_is q7c1.eq_1) := run_is rfl
def q7c2 : QCode := .seq (.ops [oG 9 1 3]) (.seq (.ops [oA 61 6 27, oA 62 9 3, oN 63 24 61 62 27 3 3, oB 9 63 3]) (.seq (.seq (.ops [oA 64 9 3, oV 65 3 64 0 3 4]) (.cond (.tmp 65) (.seq (.ops [oE 2 4]) (.ret)) (.skip))) (q7c1)))
@[simp] theorem q7c2R : type_of% (run_is q7c2.eq_1) := run_is rfl
def q7c3 : QCode := .seq (.ops [oC 54 44 1 44, oI 55 19 54 44 29, oI 56 15 55 29 27, oB 10 56 27]) (.seq (.seq (.ops [oA 57 10 27, oA 58 4 27, oN 59 21 57 58 27 27 4, oR 60 4 59 4]) (.cond (.tmp 60) (.seq (.ops [oE 2 4]) (.ret)) (.skip))) (q7c2))
@[simp] theorem q7c3R : type_of% (run_is q7c3.eq_1) := run_is rfl
def q7c4 : QCode := .seq (.seq (.ops [oA 51 9 3, oA 52 8 3, oAE 53 3 51 52 3 4]) (.cond (.tmp 53) (.seq (.ops [oE 2 4]) (.ret)) (.skip))) (q7c3)
@[simp] theorem q7c4R : type_of% (run_is q7c4.eq_1) := run_is rfl
def q7c5 : QCode := .seq (.ops [oG 8 1 3]) (.seq (.ops [oA 43 6 27, oA 44 8 3, oN 45 23 43 44 27 3 3, oB 8 45 3]) (.seq (.ops [oG 9 1 3]) (.seq (.ops [oA 46 6 27, oA 47 9 3, oN 48 24 46 47 27 3 3, oB 9 48 3]) (.seq (.seq (.ops [oA 49 9 3, oV 50 3 49 0 3 4]) (.cond (.tmp 50) (.seq (.ops [oE 2 4]) (.ret)) (.skip))) (q7c4)))))
@[simp] theorem q7c5R : type_of% (run_is q7c5.eq_1) := run_is rfl
def q7c6 : QCode := .seq (.ops [oG 7 1 3]) (.seq (.ops [oC 32 29 5 29, oA 33 7 3, oN 34 22 32 33 29 3 3, oB 7 34 3]) (.seq (.seq (.ops [oA 35 7 3, oV 36 3 35 0 3 4, oA 37 36 4, oK 38 6 27 37, oK 39 4 27 37, ⟨some 40, .call { callee := .value (.func 21), args := #[.tmp 38, .tmp 39], argTypes := #[27, 27] }, 4, some (37, false)⟩, ⟨some 41, .unOp .not 4 (.tmp 40), 4, some (37, false)⟩, oP 42 37 41 4]) (.cond (.tmp 42) (.seq (.ops [oE 2 4]) (.ret)) (.skip))) (q7c5)))
@[simp] theorem q7c6R : type_of% (run_is q7c6.eq_1) := run_is rfl
def q7c7 : QCode := .seq (.seq (.draw [] [⟨some 27, .load 29 (.tmp 5), 29, none⟩, ⟨some 28, .load 44 (.tmp 1), 44, none⟩, ⟨some 29, .call { callee := .value (.func 19), args := #[.tmp 28], argTypes := #[44] }, 29, none⟩] [⟨some 30, .call { callee := .value (.func 20), args := #[.tmp 27, .tmp 29], argTypes := #[29, 29] }, 4, none⟩, ⟨some 31, .unOp .not 4 (.tmp 30), 4, none⟩]) (.cond (.tmp 31) (.seq (.ops [oE 2 4]) (.ret)) (.skip))) (q7c6)
@[simp] theorem q7c7R : type_of% (run_is q7c7.eq_1) := run_is rfl
def q7c8 : QCode := .seq (.ops [oC 16 44 1 44, oI 17 19 16 44 29, oI 18 17 17 29 27, oB 4 18 27]) (.seq (.ops [oC 19 44 1 44, oI 20 19 19 44 29, oW 5 29 0, oL 29 5 20 0]) (.seq (.ops [oC 21 29 5 29, oI 22 15 21 29 27, oB 6 22 27]) (.seq (.seq (.ops [oA 23 6 27, oA 24 4 27, oN 25 21 23 24 27 27 4, oR 26 4 25 4]) (.cond (.tmp 26) (.seq (.ops [oE 2 4]) (.ret)) (.skip))) (q7c7))))
@[simp] theorem q7c8R : type_of% (run_is q7c8.eq_1) := run_is rfl
@[simp] def q7 : QFn := ⟨69, [(.tmp 2, 4)], .seq (.ops [oO 1 44 0 0, oE 2 4]) (.seq (.ops [oG 3 1048576 3]) (.seq (.ops [oC 11 44 1 44, oA 12 3 3, oN 13 18 11 12 44 3 3, oB 3 13 3]) (.seq (.seq (.ops [oA 14 3 3, oV 15 3 14 0 3 4]) (.cond (.tmp 15) (.seq (.ops [oY 2 4]) (.ret)) (.skip))) (q7c8))))⟩
theorem Cv7 : convF Tryz.f7 = some q7 := by kernel_rfl
abbrev Fn12 : FuncId := 12
def q12c0 : QCode := .seq (.ops [oC 11 29 1 29, oI 12 37 11 29 61, oA 10 12 61, oS 13 10 0 27, oS 14 10 1 3, oB 3 13 27, oB 4 14 3]) (.seq (.ops [oA 15 4 3, oB 2 15 3]) (.ret))
@[simp] theorem q12c0R : type_of% (run_is q12c0.eq_1) := run_is rfl
def q12c1 : QCode := .seq (.seq (.ops [oC 8 29 1 29, oI 9 36 8 29 4]) (.cond (.tmp 9) (.seq (.ops [oG 2 2 3]) (.ret)) (.skip))) (q12c0)
@[simp] theorem q12c1R : type_of% (run_is q12c1.eq_1) := run_is rfl
@[simp] def q12 : QFn := ⟨16, [(.tmp 2, 3)], .seq (.ops [oO 1 29 0 0, oG 2 0 3]) (.seq (.seq (.ops [oC 5 29 1 29, oI 6 35 5 29 4, oR 7 4 6 4]) (.cond (.tmp 7) (.seq (.ops [oG 2 1 3]) (.ret)) (.skip))) (q12c1))⟩
theorem Cv12 : convF Tryz.f12 = some q12 := by kernel_rfl
abbrev Fn13 : FuncId := 13
def q13c0 : QCode := .ops [oA 19 3 3, oH 20 3 19 1 3 3, oB 3 20 3]
@[simp] theorem q13c0R : type_of% (run_is q13c0.eq_1) := run_is rfl
def q13c1 : QCode := .seq (.block 1 (.seq (.draw [] [⟨some 22, .load 29 (.tmp 1), 29, none⟩, ⟨some 23, .call { callee := .value (.func 41), args := #[.tmp 22], argTypes := #[29] }, 23, none⟩, ⟨some 24, .fieldAddr 29 (.tmp 1) 2, 0, none⟩, ⟨some 25, .load 23 (.tmp 24), 23, none⟩, ⟨some 26, .move (.tmp 3), 3, none⟩, ⟨some 27, .indexAddr 23 (.tmp 25) (.tmp 26), 0, none⟩, ⟨some 28, .fieldAddr 33 (.tmp 27) 0, 0, none⟩, ⟨some 29, .load 9 (.tmp 28), 9, none⟩, ⟨some 30, .binOp .add 9 (.const (.string { data := #[36, 123] })) (.tmp 29) 9, 9, none⟩, ⟨some 31, .binOp .add 9 (.tmp 30) (.const (.string { data := #[125] })) 9, 9, none⟩, ⟨some 32, .buildSlice 27 0 #[], 27, none⟩, ⟨some 33, .call { callee := .value (.func 40), args := #[.tmp 23, .tmp 31, .tmp 32], argTypes := #[23, 9, 27] }, 63, none⟩, ⟨some 21, .move (.tmp 33), 63, none⟩, ⟨some 34, .extract (.tmp 21) 0, 9, none⟩, ⟨some 35, .extract (.tmp 21) 1, 3, none⟩, ⟨some 4, .assign (.tmp 34), 9, none⟩] [⟨some 5, .assign (.tmp 35), 3, none⟩]) (.seq (.ops [oA 36 5 3, ⟨some 37, .binOp .neq 3 (.tmp 36) (.const (.int .i64 0)) 3, 4, none⟩]) (.cond (.tmp 37) (.seq (.ops [oA 38 5 3, oB 2 38 3]) (.ret)) (.skip))))) (q13c0)
@[simp] theorem q13c1R : type_of% (run_is q13c1.eq_1) := run_is rfl
def q13l0 : QCode := .seq (.seq (.ops [oA 14 3 3, oD 15 29 1 2 0, oC 16 23 15 23, oF 17 16 23 3, oJ 18 3 14 17 3 4]) (.cond (.tmp 18) (.skip) (.exit 0))) (q13c1)
@[simp] theorem q13l0R : type_of% (run_is q13l0.eq_1) := run_is rfl
def q13c2 : QCode := .ops [oA 44 6 3, oH 45 3 44 1 3 3, oB 6 45 3]
@[simp] theorem q13c2R : type_of% (run_is q13c2.eq_1) := run_is rfl
def q13c3 : QCode := .seq (.block 3 (.seq (.draw [] [⟨some 47, .load 29 (.tmp 1), 29, none⟩, ⟨some 48, .call { callee := .value (.func 41), args := #[.tmp 47], argTypes := #[29] }, 23, none⟩, ⟨some 49, .fieldAddr 29 (.tmp 1) 7, 0, none⟩, ⟨some 50, .load 27 (.tmp 49), 27, none⟩, ⟨some 51, .move (.tmp 6), 3, none⟩, ⟨some 52, .indexAddr 27 (.tmp 50) (.tmp 51), 0, none⟩, ⟨some 53, .load 9 (.tmp 52), 9, none⟩, ⟨some 54, .buildSlice 27 0 #[], 27, none⟩, ⟨some 55, .call { callee := .value (.func 40), args := #[.tmp 48, .tmp 53, .tmp 54], argTypes := #[23, 9, 27] }, 63, none⟩, ⟨some 46, .move (.tmp 55), 63, none⟩, ⟨some 56, .extract (.tmp 46) 0, 9, none⟩, ⟨some 57, .extract (.tmp 46) 1, 3, none⟩, ⟨some 7, .assign (.tmp 56), 9, none⟩] [⟨some 8, .assign (.tmp 57), 3, none⟩]) (.seq (.ops [oA 58 8 3, ⟨some 59, .binOp .neq 3 (.tmp 58) (.const (.int .i64 0)) 3, 4, none⟩]) (.cond (.tmp 59) (.seq (.ops [oA 60 8 3, oB 2 60 3]) (.ret)) (.skip))))) (q13c2)
@[simp] theorem q13c3R : type_of% (run_is q13c3.eq_1) := run_is rfl
def q13l1 : QCode := .seq (.seq (.ops [oA 39 6 3, oD 40 29 1 7 0, oC 41 27 40 27, oF 42 41 27 3, oJ 43 3 39 42 3 4]) (.cond (.tmp 43) (.skip) (.exit 2))) (q13c3)
@[simp] theorem q13l1R : type_of% (run_is q13l1.eq_1) := run_is rfl
def q13c4 : QCode := .seq (.ops [oG 2 0 3]) (.ret)
@[simp] theorem q13c4R : type_of% (run_is q13c4.eq_1) := run_is rfl
def q13c5 : QCode := .seq (.seq (.ops [oG 6 0 3]) (.block 2 (.loop q13l1))) (q13c4)
@[simp] theorem q13c5R : type_of% (run_is q13c5.eq_1) := run_is rfl
def q13c6 : QCode := .seq (.seq (.ops [oG 3 0 3]) (.block 0 (.loop q13l0))) (q13c5)
@[simp] theorem q13c6R : type_of% (run_is q13c6.eq_1) := run_is rfl
def q13c7 : QCode := .seq (.seq (.ops [oC 12 29 1 29, oI 13 39 12 29 4]) (.cond (.tmp 13) (.seq (.ops [oG 2 2 3]) (.ret)) (.skip))) (q13c6)
@[simp] theorem q13c7R : type_of% (run_is q13c7.eq_1) := run_is rfl
@[simp] def q13 : QFn := ⟨61, [(.tmp 2, 3)], .seq (.ops [oO 1 29 0 0, oG 2 0 3]) (.seq (.seq (.ops [oC 9 29 1 29, oI 10 38 9 29 4, oR 11 4 10 4]) (.cond (.tmp 11) (.seq (.ops [oG 2 1 3]) (.ret)) (.skip))) (q13c7))⟩
theorem Cv13 : convF Tryz.f13 = some q13 := by kernel_rfl
abbrev Fn15 : FuncId := 15
def q15c0 : QCode := .seq (.ops [oC 9 29 1 29, oI 10 37 9 29 61, oA 8 10 61, oS 11 8 0 27, oS 12 8 1 3, oB 3 11 27, oB 4 12 3]) (.seq (.ops [oA 13 3 27, oB 2 13 27]) (.ret))
@[simp] theorem q15c0R : type_of% (run_is q15c0.eq_1) := run_is rfl
@[simp] def q15 : QFn := ⟨14, [(.tmp 2, 27)], .seq (.ops [oO 1 29 0 0, oZ 2 27]) (.seq (.seq (.ops [oC 5 29 1 29, oI 6 12 5 29 3, ⟨some 7, .binOp .neq 3 (.tmp 6) (.const (.int .i64 0)) 3, 4, none⟩]) (.cond (.tmp 7) (.seq (.ops [oZ 2 27]) (.ret)) (.skip))) (q15c0))⟩
theorem Cv15 : convF Tryz.f15 = some q15 := by kernel_rfl
abbrev Fn17 : FuncId := 17
def q17c0 : QCode := .ops [oA 17 4 3, oH 18 3 17 1 3 3, oB 4 18 3]
@[simp] theorem q17c0R : type_of% (run_is q17c0.eq_1) := run_is rfl
def q17c1 : QCode := .seq (.block 1 (.seq (.draw [] [⟨some 20, .load 29 (.tmp 1), 29, none⟩, ⟨some 21, .call { callee := .value (.func 41), args := #[.tmp 20], argTypes := #[29] }, 23, none⟩, ⟨some 22, .fieldAddr 29 (.tmp 1) 7, 0, none⟩, ⟨some 23, .load 27 (.tmp 22), 27, none⟩, ⟨some 24, .move (.tmp 4), 3, none⟩, ⟨some 25, .indexAddr 27 (.tmp 23) (.tmp 24), 0, none⟩, ⟨some 26, .load 9 (.tmp 25), 9, none⟩, ⟨some 27, .buildSlice 27 0 #[], 27, none⟩, ⟨some 28, .call { callee := .value (.func 40), args := #[.tmp 21, .tmp 26, .tmp 27], argTypes := #[23, 9, 27] }, 63, none⟩, ⟨some 19, .move (.tmp 28), 63, none⟩, ⟨some 29, .extract (.tmp 19) 0, 9, none⟩, ⟨some 30, .extract (.tmp 19) 1, 3, none⟩, ⟨some 5, .assign (.tmp 29), 9, none⟩] [⟨some 6, .assign (.tmp 30), 3, none⟩]) (.ops [oA 31 3 27, oA 32 5 9, oAA 33 27 1 0 32 27, oAB 34 31 33 27 27 27, oB 3 34 27]))) (q17c0)
@[simp] theorem q17c1R : type_of% (run_is q17c1.eq_1) := run_is rfl
def q17l0 : QCode := .seq (.seq (.ops [oA 12 4 3, oD 13 29 1 7 0, oC 14 27 13 27, oF 15 14 27 3, oJ 16 3 12 15 3 4]) (.cond (.tmp 16) (.skip) (.exit 0))) (q17c1)
@[simp] theorem q17l0R : type_of% (run_is q17l0.eq_1) := run_is rfl
def q17c2 : QCode := .seq (.ops [oA 35 3 27, oB 2 35 27]) (.ret)
@[simp] theorem q17c2R : type_of% (run_is q17c2.eq_1) := run_is rfl
def q17c3 : QCode := .seq (.seq (.ops [oG 4 0 3]) (.block 0 (.loop q17l0))) (q17c2)
@[simp] theorem q17c3R : type_of% (run_is q17c3.eq_1) := run_is rfl
@[simp] def q17 : QFn := ⟨36, [(.tmp 2, 27)], .seq (.ops [oO 1 29 0 0, oZ 2 27]) (.seq (.ops [⟨some 7, .buildSlice 27 0 #[], 27, none⟩, oB 3 7 27]) (.seq (.seq (.ops [oC 8 29 1 29, oI 9 13 8 29 3, ⟨some 10, .binOp .neq 3 (.tmp 9) (.const (.int .i64 0)) 3, 4, none⟩]) (.cond (.tmp 10) (.seq (.ops [oA 11 3 27, oB 2 11 27]) (.ret)) (.skip))) (q17c3)))⟩
theorem Cv17 : convF Tryz.f17 = some q17 := by kernel_rfl
abbrev Fn18 : FuncId := 18
def q18c0 : QCode := .seq (.ops [oA 55 1 3, oB 4 55 3]) (.ret)
@[simp] theorem q18c0R : type_of% (run_is q18c0.eq_1) := run_is rfl
def q18c1 : QCode := .seq (.ops [oD 49 44 2 7 0, oC 50 27 49 27, oA 51 1 3, oN 52 46 50 51 27 3 3, oB 1 52 3]) (.seq (.seq (.ops [oA 53 1 3, oV 54 3 53 0 3 4]) (.cond (.tmp 54) (.seq (.ops [oX 4 3]) (.ret)) (.skip))) (q18c0))
@[simp] theorem q18c1R : type_of% (run_is q18c1.eq_1) := run_is rfl
def q18c2 : QCode := .seq (.ops [oD 43 44 2 6 0, oC 44 42 43 42, oA 45 1 3, oN 46 45 44 45 42 3 3, oB 1 46 3]) (.seq (.seq (.ops [oA 47 1 3, oV 48 3 47 0 3 4]) (.cond (.tmp 48) (.seq (.ops [oX 4 3]) (.ret)) (.skip))) (q18c1))
@[simp] theorem q18c2R : type_of% (run_is q18c2.eq_1) := run_is rfl
def q18c3 : QCode := .seq (.ops [oD 37 44 2 5 0, oC 38 41 37 41, oA 39 1 3, oN 40 44 38 39 41 3 3, oB 1 40 3]) (.seq (.seq (.ops [oA 41 1 3, oV 42 3 41 0 3 4]) (.cond (.tmp 42) (.seq (.ops [oX 4 3]) (.ret)) (.skip))) (q18c2))
@[simp] theorem q18c3R : type_of% (run_is q18c3.eq_1) := run_is rfl
def q18c4 : QCode := .seq (.ops [oD 31 44 2 4 0, oC 32 40 31 40, oA 33 1 3, oN 34 43 32 33 40 3 3, oB 1 34 3]) (.seq (.seq (.ops [oA 35 1 3, oV 36 3 35 0 3 4]) (.cond (.tmp 36) (.seq (.ops [oX 4 3]) (.ret)) (.skip))) (q18c3))
@[simp] theorem q18c4R : type_of% (run_is q18c4.eq_1) := run_is rfl
def q18c5 : QCode := .seq (.ops [oD 25 44 2 3 0, oC 26 40 25 40, oA 27 1 3, oN 28 43 26 27 40 3 3, oB 1 28 3]) (.seq (.seq (.ops [oA 29 1 3, oV 30 3 29 0 3 4]) (.cond (.tmp 30) (.seq (.ops [oX 4 3]) (.ret)) (.skip))) (q18c4))
@[simp] theorem q18c5R : type_of% (run_is q18c5.eq_1) := run_is rfl
def q18c6 : QCode := .seq (.ops [oD 19 44 2 2 0, oC 20 39 19 39, oA 21 1 3, oN 22 42 20 21 39 3 3, oB 1 22 3]) (.seq (.seq (.ops [oA 23 1 3, oV 24 3 23 0 3 4]) (.cond (.tmp 24) (.seq (.ops [oX 4 3]) (.ret)) (.skip))) (q18c5))
@[simp] theorem q18c6R : type_of% (run_is q18c6.eq_1) := run_is rfl
def q18c7 : QCode := .seq (.ops [oA 12 1 3, oD 13 44 2 1 0, oC 14 9 13 9, oF 15 14 9 3, oAH 16 3 12 15 3 3, oB 1 16 3]) (.seq (.seq (.ops [oA 17 1 3, oV 18 3 17 0 3 4]) (.cond (.tmp 18) (.seq (.ops [oX 4 3]) (.ret)) (.skip))) (q18c6))
@[simp] theorem q18c7R : type_of% (run_is q18c7.eq_1) := run_is rfl
@[simp] def q18 : QFn := ⟨56, [(.tmp 4, 3)], .seq (.ops [oO 2 44 0 0, oG 4 0 3]) (.seq (.ops [oA 5 1 3, oD 6 44 2 0 0, oC 7 9 6 9, oF 8 7 9 3, oAH 9 3 5 8 3 3, oB 1 9 3]) (.seq (.seq (.ops [oA 10 1 3, oV 11 3 10 0 3 4]) (.cond (.tmp 11) (.seq (.ops [oX 4 3]) (.ret)) (.skip))) (q18c7)))⟩
theorem Cv18 : convF Tryz.f18 = some q18 := by kernel_rfl
abbrev Fn19 : FuncId := 19
@[simp] def q19 : QFn := ⟨35, [(.cell 2 29, 29)], .seq (.ops [oO 1 44 0 0, oW 2 29 0]) (.seq (.ops [oW 3 29 0]) (.seq (.ops [oD 4 44 1 0 0, oC 5 9 4 9, oD 6 29 3 0 0, oL 9 6 5 0]) (.seq (.ops [oD 7 44 1 1 0, oC 8 9 7 9, oD 9 29 3 1 0, oL 9 9 8 0]) (.seq (.ops [oD 10 44 1 2 0, oC 11 39 10 39, oI 12 47 11 39 23, oD 13 29 3 2 0, oL 23 13 12 0]) (.seq (.ops [oD 14 44 1 3 0, oC 15 40 14 40, oI 16 48 15 40 24, oD 17 29 3 3 0, oL 24 17 16 0]) (.seq (.ops [oD 18 44 1 4 0, oC 19 40 18 40, oI 20 48 19 40 24, oD 21 29 3 4 0, oL 24 21 20 0]) (.seq (.ops [oD 22 44 1 5 0, oC 23 41 22 41, oI 24 49 23 41 25, oD 25 29 3 5 0, oL 25 25 24 0]) (.seq (.ops [oD 26 44 1 6 0, oC 27 42 26 42, oI 28 50 27 42 26, oD 29 29 3 6 0, oL 26 29 28 0]) (.seq (.ops [oD 30 44 1 7 0, oC 31 27 30 27, oI 32 51 31 27 27, oD 33 29 3 7 0, oL 27 33 32 0]) (.seq (.ops [oC 34 29 3 29, oL 29 2 34 0]) (.ret)))))))))))⟩
theorem Cv19 : convF Tryz.f19 = some q19 := by kernel_rfl
abbrev Fn20 : FuncId := 20
def q20c0 : QCode := .seq (.ops [oY 4 4]) (.ret)
@[simp] theorem q20c0R : type_of% (run_is q20c0.eq_1) := run_is rfl
def q20c1 : QCode := .seq (.seq (.ops [oD 45 29 2 7 0, oC 46 27 45 27, oD 47 29 3 7 0, oC 48 27 47 27, oN 49 21 46 48 27 27 4, oR 50 4 49 4]) (.cond (.tmp 50) (.seq (.ops [oE 4 4]) (.ret)) (.skip))) (q20c0)
@[simp] theorem q20c1R : type_of% (run_is q20c1.eq_1) := run_is rfl
def q20c2 : QCode := .seq (.seq (.ops [oD 39 29 2 6 0, oC 40 26 39 26, oD 41 29 3 6 0, oC 42 26 41 26, oN 43 55 40 42 26 26 4, oR 44 4 43 4]) (.cond (.tmp 44) (.seq (.ops [oE 4 4]) (.ret)) (.skip))) (q20c1)
@[simp] theorem q20c2R : type_of% (run_is q20c2.eq_1) := run_is rfl
def q20c3 : QCode := .seq (.seq (.ops [oD 33 29 2 5 0, oC 34 25 33 25, oD 35 29 3 5 0, oC 36 25 35 25, oN 37 54 34 36 25 25 4, oR 38 4 37 4]) (.cond (.tmp 38) (.seq (.ops [oE 4 4]) (.ret)) (.skip))) (q20c2)
@[simp] theorem q20c3R : type_of% (run_is q20c3.eq_1) := run_is rfl
def q20c4 : QCode := .seq (.seq (.ops [oD 27 29 2 4 0, oC 28 24 27 24, oD 29 29 3 4 0, oC 30 24 29 24, oN 31 53 28 30 24 24 4, oR 32 4 31 4]) (.cond (.tmp 32) (.seq (.ops [oE 4 4]) (.ret)) (.skip))) (q20c3)
@[simp] theorem q20c4R : type_of% (run_is q20c4.eq_1) := run_is rfl
def q20c5 : QCode := .seq (.seq (.ops [oD 21 29 2 3 0, oC 22 24 21 24, oD 23 29 3 3 0, oC 24 24 23 24, oN 25 53 22 24 24 24 4, oR 26 4 25 4]) (.cond (.tmp 26) (.seq (.ops [oE 4 4]) (.ret)) (.skip))) (q20c4)
@[simp] theorem q20c5R : type_of% (run_is q20c5.eq_1) := run_is rfl
def q20c6 : QCode := .seq (.seq (.ops [oD 15 29 2 2 0, oC 16 23 15 23, oD 17 29 3 2 0, oC 18 23 17 23, oN 19 52 16 18 23 23 4, oR 20 4 19 4]) (.cond (.tmp 20) (.seq (.ops [oE 4 4]) (.ret)) (.skip))) (q20c5)
@[simp] theorem q20c6R : type_of% (run_is q20c6.eq_1) := run_is rfl
def q20c7 : QCode := .seq (.seq (.ops [oD 10 29 2 1 0, oC 11 9 10 9, oD 12 29 3 1 0, oC 13 9 12 9, oAE 14 9 11 13 9 4]) (.cond (.tmp 14) (.seq (.ops [oE 4 4]) (.ret)) (.skip))) (q20c6)
@[simp] theorem q20c7R : type_of% (run_is q20c7.eq_1) := run_is rfl
@[simp] def q20 : QFn := ⟨51, [(.tmp 4, 4)], .seq (.ops [oO 2 29 0 0, oO 3 29 1 0, oE 4 4]) (.seq (.seq (.ops [oD 5 29 2 0 0, oC 6 9 5 9, oD 7 29 3 0 0, oC 8 9 7 9, oAE 9 9 6 8 9 4]) (.cond (.tmp 9) (.seq (.ops [oE 4 4]) (.ret)) (.skip))) (q20c7))⟩
theorem Cv20 : convF Tryz.f20 = some q20 := by kernel_rfl
abbrev Fn21 : FuncId := 21
def q21c0 : QCode := .ops [oA 15 5 3, oH 16 3 15 1 3 3, oB 5 16 3]
@[simp] theorem q21c0R : type_of% (run_is q21c0.eq_1) := run_is rfl
def q21c1 : QCode := .seq (.block 1 (.seq (.draw [] [⟨some 17, .move (.tmp 0), 27, none⟩, ⟨some 18, .move (.tmp 5), 3, none⟩, ⟨some 19, .indexAddr 27 (.tmp 17) (.tmp 18), 0, none⟩, ⟨some 20, .load 9 (.tmp 19), 9, none⟩, ⟨some 21, .move (.tmp 1), 27, none⟩, ⟨some 22, .move (.tmp 5), 3, none⟩, ⟨some 23, .indexAddr 27 (.tmp 21) (.tmp 22), 0, none⟩, ⟨some 24, .load 9 (.tmp 23), 9, none⟩] [⟨some 25, .binOp .neq 9 (.tmp 20) (.tmp 24) 9, 4, none⟩]) (.cond (.tmp 25) (.seq (.ops [oE 4 4]) (.ret)) (.skip)))) (q21c0)
@[simp] theorem q21c1R : type_of% (run_is q21c1.eq_1) := run_is rfl
def q21l0 : QCode := .seq (.seq (.ops [oA 11 5 3, oA 12 0 27, oF 13 12 27 3, oJ 14 3 11 13 3 4]) (.cond (.tmp 14) (.skip) (.exit 0))) (q21c1)
@[simp] theorem q21l0R : type_of% (run_is q21l0.eq_1) := run_is rfl
def q21c2 : QCode := .seq (.ops [oY 4 4]) (.ret)
@[simp] theorem q21c2R : type_of% (run_is q21c2.eq_1) := run_is rfl
def q21c3 : QCode := .seq (.seq (.ops [oG 5 0 3]) (.block 0 (.loop q21l0))) (q21c2)
@[simp] theorem q21c3R : type_of% (run_is q21c3.eq_1) := run_is rfl
@[simp] def q21 : QFn := ⟨26, [(.tmp 4, 4)], .seq (.ops [oE 4 4]) (.seq (.seq (.ops [oA 6 0 27, oF 7 6 27 3, oA 8 1 27, oF 9 8 27 3, oAE 10 3 7 9 3 4]) (.cond (.tmp 10) (.seq (.ops [oE 4 4]) (.ret)) (.skip))) (q21c3))⟩
theorem Cv21 : convF Tryz.f21 = some q21 := by kernel_rfl
abbrev Fn22 : FuncId := 22
@[simp] def q22 : QFn := ⟨30, [(.tmp 4, 3)], .seq (.ops [oO 2 29 0 0, oG 4 0 3]) (.seq (.ops [oD 5 29 2 2 0, oC 6 23 5 23, oA 7 1 3, oN 8 56 6 7 23 3 3, oB 1 8 3]) (.seq (.ops [oD 9 29 2 3 0, oC 10 24 9 24, oA 11 1 3, oN 12 57 10 11 24 3 3, oB 1 12 3]) (.seq (.ops [oD 13 29 2 4 0, oC 14 24 13 24, oA 15 1 3, oN 16 57 14 15 24 3 3, oB 1 16 3]) (.seq (.ops [oD 17 29 2 5 0, oC 18 25 17 25, oA 19 1 3, oN 20 58 18 19 25 3 3, oB 1 20 3]) (.seq (.ops [oD 21 29 2 6 0, oC 22 26 21 26, oA 23 1 3, oN 24 59 22 23 26 3 3, oB 1 24 3]) (.seq (.ops [oD 25 29 2 7 0, oC 26 27 25 27, oA 27 1 3, oN 28 23 26 27 27 3 3, oB 1 28 3]) (.seq (.ops [oA 29 1 3, oB 4 29 3]) (.ret))))))))⟩
theorem Cv22 : convF Tryz.f22 = some q22 := by kernel_rfl
abbrev Fn23 : FuncId := 23
def q23c0 : QCode := .ops [oA 10 5 3, oH 11 3 10 1 3 3, oB 5 11 3]
@[simp] theorem q23c0R : type_of% (run_is q23c0.eq_1) := run_is rfl
def q23c1 : QCode := .seq (.block 1 (.seq (.ops [oA 12 0 27, oA 13 5 3, oA 14 1 3, oI 15 60 14 3 9, oM 16 27 12 13 0, oL 9 16 15 0]) (.ops [oA 17 1 3, oH 18 3 17 1 3 3, oB 1 18 3]))) (q23c0)
@[simp] theorem q23c1R : type_of% (run_is q23c1.eq_1) := run_is rfl
def q23l0 : QCode := .seq (.seq (.ops [oA 6 5 3, oA 7 0 27, oF 8 7 27 3, oJ 9 3 6 8 3 4]) (.cond (.tmp 9) (.skip) (.exit 0))) (q23c1)
@[simp] theorem q23l0R : type_of% (run_is q23l0.eq_1) := run_is rfl
def q23c2 : QCode := .seq (.ops [oA 19 1 3, oB 4 19 3]) (.ret)
@[simp] theorem q23c2R : type_of% (run_is q23c2.eq_1) := run_is rfl
@[simp] def q23 : QFn := ⟨20, [(.tmp 4, 3)], .seq (.ops [oG 4 0 3]) (.seq (.seq (.ops [oG 5 0 3]) (.block 0 (.loop q23l0))) (q23c2))⟩
theorem Cv23 : convF Tryz.f23 = some q23 := by kernel_rfl
abbrev Fn24 : FuncId := 24
def q24c0 : QCode := .ops [oA 19 1 3, oH 20 3 19 1 3 3, oB 1 20 3]
@[simp] theorem q24c0R : type_of% (run_is q24c0.eq_1) := run_is rfl
def q24c1 : QCode := .ops [oA 10 5 3, oH 11 3 10 1 3 3, oB 5 11 3]
@[simp] theorem q24c1R : type_of% (run_is q24c1.eq_1) := run_is rfl
def q24c2 : QCode := .seq (.block 1 (.seq (.seq (.draw [1] [⟨some 12, .move (.tmp 0), 27, none⟩, ⟨some 13, .move (.tmp 5), 3, none⟩, ⟨some 14, .indexAddr 27 (.tmp 12) (.tmp 13), 0, none⟩, ⟨some 15, .load 9 (.tmp 14), 9, none⟩, ⟨some 16, .move (.tmp 1), 3, none⟩, ⟨some 17, .call { callee := .value (.func 60), args := #[.tmp 16], argTypes := #[3] }, 9, none⟩] [⟨some 18, .binOp .neq 9 (.tmp 15) (.tmp 17) 9, 4, none⟩]) (.cond (.tmp 18) (.seq (.ops [oX 4 3]) (.ret)) (.skip))) (q24c0))) (q24c1)
@[simp] theorem q24c2R : type_of% (run_is q24c2.eq_1) := run_is rfl
def q24l0 : QCode := .seq (.seq (.ops [oA 6 5 3, oA 7 0 27, oF 8 7 27 3, oJ 9 3 6 8 3 4]) (.cond (.tmp 9) (.skip) (.exit 0))) (q24c2)
@[simp] theorem q24l0R : type_of% (run_is q24l0.eq_1) := run_is rfl
def q24c3 : QCode := .seq (.ops [oA 21 1 3, oB 4 21 3]) (.ret)
@[simp] theorem q24c3R : type_of% (run_is q24c3.eq_1) := run_is rfl
@[simp] def q24 : QFn := ⟨22, [(.tmp 4, 3)], .seq (.ops [oG 4 0 3]) (.seq (.seq (.ops [oG 5 0 3]) (.block 0 (.loop q24l0))) (q24c3))⟩
theorem Cv24 : convF Tryz.f24 = some q24 := by kernel_rfl
abbrev Fn35 : FuncId := 35
def q35c0 : QCode := .seq (.ops [oD 36 29 1 2 0, oC 37 23 36 23, ⟨some 38, .call { callee := .value (.func 87), args := #[.tmp 37, .func 88], argTypes := #[23, 115] }, 4, none⟩, oA 39 38 4, oAC 40 29 1 3 0 39, oAD 41 24 40 24 39, oAT 42 89 41 90 24 117 4 39, oU 43 39 42 4, oA 44 43 4, oAC 45 29 1 4 0 44, oAD 46 24 45 24 44, oAT 47 89 46 90 24 117 4 44, oU 48 44 47 4, oA 49 48 4, oAC 50 29 1 5 0 49, oAD 51 25 50 25 49, oAT 52 91 51 92 25 119 4 49, oU 53 49 52 4, oA 54 53 4, oAC 55 29 1 6 0 54, oAD 56 26 55 26 54, oAT 57 93 56 94 26 121 4 54, oU 58 54 57 4, oA 59 58 4, oAC 60 29 1 7 0 59, oAD 61 27 60 27 59, oAT 62 95 61 96 27 54 4 59, oU 63 59 62 4, oB 2 63 4]) (.ret)
@[simp] theorem q35c0R : type_of% (run_is q35c0.eq_1) := run_is rfl
def q35c1 : QCode := .seq (.seq (.ops [oD 19 29 1 2 0, oC 20 23 19 23, oF 21 20 23 3, oD 22 29 1 3 0, oC 23 24 22 24, oF 24 23 24 3, oD 25 29 1 4 0, oC 26 24 25 24, oF 27 26 24 3, oD 28 29 1 5 0, oC 29 25 28 25, oF 30 29 25 3, oD 31 29 1 6 0, oC 32 26 31 26, oF 33 32 26 3, ⟨some 34, .call { callee := .builtin .max, args := #[.tmp 21, .tmp 24, .tmp 27, .tmp 30, .tmp 33], argTypes := #[3, 3, 3, 3, 3] }, 3, none⟩, oAM 35 3 34 6 3 4]) (.cond (.tmp 35) (.seq (.ops [oE 2 4]) (.ret)) (.skip))) (q35c0)
@[simp] theorem q35c1R : type_of% (run_is q35c1.eq_1) := run_is rfl
@[simp] def q35 : QFn := ⟨64, [(.tmp 2, 4)], .seq (.ops [oO 1 29 0 0, oE 2 4]) (.seq (.seq (.ops [oD 3 29 1 0 0, oC 4 9 3 9, oI 5 85 4 9 4, oR 6 4 5 4, oA 7 6 4, oAJ 8 29 1 1 0 7, oAI 9 9 8 9 7, oAO 10 86 9 9 4 7, ⟨some 11, .unOp .not 4 (.tmp 10), 4, some (7, false)⟩, oP 12 7 11 4, oA 13 12 4, oAJ 14 29 1 7 0 13, oAI 15 27 14 27 13, oAP 16 15 27 3 13, ⟨some 17, .binOp .gtr 3 (.tmp 16) (.const (.int .i64 10)) 3, 4, some (13, false)⟩, oP 18 13 17 4]) (.cond (.tmp 18) (.seq (.ops [oE 2 4]) (.ret)) (.skip))) (q35c1))⟩
theorem Cv35 : convF Tryz.f35 = some q35 := by kernel_rfl
abbrev Fn36 : FuncId := 36
@[simp] def q36 : QFn := ⟨39, [(.tmp 2, 4)], .seq (.ops [oO 1 29 0 0, oE 2 4]) (.seq (.ops [⟨some 3, .assign (.func 97), 123, none⟩]) (.seq (.ops [⟨some 4, .assign (.func 98), 124, none⟩]) (.seq (.ops [⟨some 5, .assign (.func 99), 125, none⟩]) (.seq (.ops [oD 6 29 1 2 0, oC 7 23 6 23, oA 8 3 123, ⟨some 9, .buildSlice 27 2 #[(0, .const (.string { data := #[110, 97, 109, 101] })), (1, .const (.string { data := #[118, 101, 114, 115, 105, 111, 110] }))], 27, none⟩, ⟨some 10, .call { callee := .value (.func 100), args := #[.tmp 7, .tmp 8, .tmp 9], argTypes := #[23, 123, 27] }, 4, none⟩, oA 11 10 4, oAJ 12 29 1 3 0 11, oAI 13 24 12 24 11, ⟨some 14, .call { callee := .value (.func 101), args := #[.tmp 13, .func 102, .const (.slice none 0 0)], argTypes := #[24, 95, 27] }, 4, some (11, false)⟩, oP 15 11 14 4, oA 16 15 4, oAJ 17 29 1 4 0 16, oAI 18 24 17 24 16, oAJ 19 29 1 0 0 16, oAI 20 9 19 9 16, ⟨some 21, .buildSlice 27 1 #[(0, .tmp 20)], 27, some (16, false)⟩, ⟨some 22, .call { callee := .value (.func 101), args := #[.tmp 18, .func 102, .tmp 21], argTypes := #[24, 95, 27] }, 4, some (16, false)⟩, oP 23 16 22 4, oA 24 23 4, oAJ 25 29 1 5 0 24, oAI 26 25 25 25 24, oK 27 4 124 24, ⟨some 28, .call { callee := .value (.func 103), args := #[.tmp 26, .tmp 27, .const (.slice none 0 0)], argTypes := #[25, 124, 27] }, 4, some (24, false)⟩, oP 29 24 28 4, oA 30 29 4, oAJ 31 29 1 6 0 30, oAI 32 26 31 26 30, oK 33 5 125 30, oAJ 34 29 1 0 0 30, oAI 35 9 34 9 30, ⟨some 36, .buildSlice 27 1 #[(0, .tmp 35)], 27, some (30, false)⟩, ⟨some 37, .call { callee := .value (.func 104), args := #[.tmp 32, .tmp 33, .tmp 36], argTypes := #[26, 125, 27] }, 4, some (30, false)⟩, oP 38 30 37 4, oB 2 38 4]) (.ret)))))⟩
theorem Cv36 : convF Tryz.f36 = some q36 := by kernel_rfl
abbrev Fn37 : FuncId := 37
def q37c0 : QCode := .ops [oH 34 3 18 1 3 3, oA 18 34 3]
@[simp] theorem q37c0R : type_of% (run_is q37c0.eq_1) := run_is rfl
def q37c1 : QCode := .seq (.block 1 (.seq (.ops [oM 20 23 16 18 0, oC 21 33 20 33, oW 6 33 0, oL 33 6 21 0]) (.seq (.ops [oA 23 4 23, oD 24 33 6 0 0, oC 25 9 24 9, ⟨some 26, .binOp .add 9 (.const (.string { data := #[36, 123] })) (.tmp 25) 9, 9, none⟩, ⟨some 27, .binOp .add 9 (.tmp 26) (.const (.string { data := #[125] })) 9, 9, none⟩, oN 28 106 23 27 23 9 63, oA 22 28 63, oS 29 22 0 9, oS 30 22 1 3, oB 7 29 9, oB 8 30 3]) (.seq (.ops [oA 31 8 3, ⟨some 32, .binOp .neq 3 (.tmp 31) (.const (.int .i64 0)) 3, 4, none⟩]) (.cond (.tmp 32) (.seq (.ops [oA 33 8 3, oZ 2 27, oB 3 33 3]) (.ret)) (.skip)))))) (q37c0)
@[simp] theorem q37c1R : type_of% (run_is q37c1.eq_1) := run_is rfl
def q37l0 : QCode := .seq (.ops [oJ 19 3 18 17 3 0]) (.seq (.cond (.tmp 19) (.skip) (.exit 0)) (q37c1))
@[simp] theorem q37l0R : type_of% (run_is q37l0.eq_1) := run_is rfl
def q37c2 : QCode := .ops [oA 51 9 27, oA 52 12 9, oAA 53 27 1 0 52 27, oAB 54 51 53 27 27 27, oB 9 54 27]
@[simp] theorem q37c2R : type_of% (run_is q37c2.eq_1) := run_is rfl
def q37c3 : QCode := .ops [oH 55 3 38 1 3 3, oA 38 55 3]
@[simp] theorem q37c3R : type_of% (run_is q37c3.eq_1) := run_is rfl
def q37c4 : QCode := .seq (.block 3 (.seq (.ops [oM 40 27 36 38 0, oC 41 9 40 9, oB 11 41 9]) (.seq (.ops [oA 43 4 23, oA 44 11 9, oN 45 106 43 44 23 9 63, oA 42 45 63, oS 46 42 0 9, oS 47 42 1 3, oB 12 46 9, oB 13 47 3]) (.seq (.seq (.ops [oA 48 13 3, ⟨some 49, .binOp .neq 3 (.tmp 48) (.const (.int .i64 0)) 3, 4, none⟩]) (.cond (.tmp 49) (.seq (.ops [oA 50 13 3, oZ 2 27, oB 3 50 3]) (.ret)) (.skip))) (q37c2))))) (q37c3)
@[simp] theorem q37c4R : type_of% (run_is q37c4.eq_1) := run_is rfl
def q37l1 : QCode := .seq (.ops [oJ 39 3 38 37 3 0]) (.seq (.cond (.tmp 39) (.skip) (.exit 2)) (q37c4))
@[simp] theorem q37l1R : type_of% (run_is q37l1.eq_1) := run_is rfl
def q37c5 : QCode := .seq (.ops [oA 56 9 27, oB 2 56 27, oG 3 0 3]) (.ret)
@[simp] theorem q37c5R : type_of% (run_is q37c5.eq_1) := run_is rfl
def q37c6 : QCode := .seq (.ops [oZ 9 27]) (.seq (.seq (.ops [oD 35 29 1 7 0, oC 36 27 35 27, oF 37 36 27 3, oAF 38 0 3]) (.block 2 (.loop q37l1))) (q37c5))
@[simp] theorem q37c6R : type_of% (run_is q37c6.eq_1) := run_is rfl
@[simp] def q37 : QFn := ⟨57, [(.tmp 2, 27), (.tmp 3, 3)], .seq (.ops [oO 1 29 0 0, oZ 2 27, oG 3 0 3]) (.seq (.ops [oC 14 29 1 29, oI 15 105 14 29 23, oB 4 15 23]) (.seq (.seq (.ops [oA 16 4 23, oF 17 16 23 3, oAF 18 0 3]) (.block 0 (.loop q37l0))) (q37c6)))⟩
theorem Cv37 : convF Tryz.f37 = some q37 := by kernel_rfl
abbrev Fn38 : FuncId := 38
def q38c0 : QCode := .ops [oA 12 3 3, oH 13 3 12 1 3 3, oB 3 13 3]
@[simp] theorem q38c0R : type_of% (run_is q38c0.eq_1) := run_is rfl
def q38c1 : QCode := .seq (.block 1 (.seq (.ops [oD 14 29 1 5 0, oC 15 25 14 25, oA 16 3 3, oM 17 25 15 16 0, oD 18 97 17 0 0, oC 19 9 18 9, oI 20 107 19 9 4, oR 21 4 20 4, oA 22 21 4, oAJ 23 29 1 5 0 22, oAI 24 25 23 25 22, oK 25 3 3 22, ⟨some 26, .indexAddr 25 (.tmp 24) (.tmp 25), 0, some (22, false)⟩, oAJ 27 97 26 1 0 22, oAI 28 9 27 9 22, oAO 29 108 28 9 4 22, ⟨some 30, .unOp .not 4 (.tmp 29), 4, some (22, false)⟩, oP 31 22 30 4]) (.cond (.tmp 31) (.seq (.ops [oE 2 4]) (.ret)) (.skip)))) (q38c0)
@[simp] theorem q38c1R : type_of% (run_is q38c1.eq_1) := run_is rfl
def q38l0 : QCode := .seq (.seq (.ops [oA 7 3 3, oD 8 29 1 5 0, oC 9 25 8 25, oF 10 9 25 3, oJ 11 3 7 10 3 4]) (.cond (.tmp 11) (.skip) (.exit 0))) (q38c1)
@[simp] theorem q38l0R : type_of% (run_is q38l0.eq_1) := run_is rfl
def q38c2 : QCode := .ops [oA 37 4 3, oH 38 3 37 1 3 3, oB 4 38 3]
@[simp] theorem q38c2R : type_of% (run_is q38c2.eq_1) := run_is rfl
def q38c3 : QCode := .seq (.block 3 (.seq (.ops [oD 39 29 1 6 0, oC 40 26 39 26, oA 41 4 3, oM 42 26 40 41 0, oD 43 35 42 0 0, oC 44 9 43 9, oI 45 109 44 9 4, oR 46 4 45 4, oA 47 46 4, oAJ 48 29 1 6 0 47, oAI 49 26 48 26 47, oK 50 4 3 47, ⟨some 51, .indexAddr 26 (.tmp 49) (.tmp 50), 0, some (47, false)⟩, oAJ 52 35 51 1 0 47, oAI 53 9 52 9 47, oAO 54 110 53 9 4 47, ⟨some 55, .unOp .not 4 (.tmp 54), 4, some (47, false)⟩, oP 56 47 55 4]) (.cond (.tmp 56) (.seq (.ops [oE 2 4]) (.ret)) (.skip)))) (q38c2)
@[simp] theorem q38c3R : type_of% (run_is q38c3.eq_1) := run_is rfl
def q38l1 : QCode := .seq (.seq (.ops [oA 32 4 3, oD 33 29 1 6 0, oC 34 26 33 26, oF 35 34 26 3, oJ 36 3 32 35 3 4]) (.cond (.tmp 36) (.skip) (.exit 2))) (q38c3)
@[simp] theorem q38l1R : type_of% (run_is q38l1.eq_1) := run_is rfl
def q38c4 : QCode := .ops [oA 62 5 3, oH 63 3 62 1 3 3, oB 5 63 3]
@[simp] theorem q38c4R : type_of% (run_is q38c4.eq_1) := run_is rfl
def q38c5 : QCode := .seq (.block 5 (.seq (.ops [oD 64 29 1 7 0, oC 65 27 64 27, oA 66 5 3, oM 67 27 65 66 0, oC 68 9 67 9, oI 69 111 68 9 4, oR 70 4 69 4]) (.cond (.tmp 70) (.seq (.ops [oE 2 4]) (.ret)) (.skip)))) (q38c4)
@[simp] theorem q38c5R : type_of% (run_is q38c5.eq_1) := run_is rfl
def q38l2 : QCode := .seq (.seq (.ops [oA 57 5 3, oD 58 29 1 7 0, oC 59 27 58 27, oF 60 59 27 3, oJ 61 3 57 60 3 4]) (.cond (.tmp 61) (.skip) (.exit 4))) (q38c5)
@[simp] theorem q38l2R : type_of% (run_is q38l2.eq_1) := run_is rfl
def q38c6 : QCode := .seq (.ops [oD 71 29 1 2 0, oC 72 23 71 23, oF 73 72 23 3, ⟨some 74, .binOp .leq 3 (.tmp 73) (.const (.int .i64 6)) 3, 4, none⟩, oA 75 74 4, oAC 76 29 1 5 0 75, oAD 77 25 76 25 75, oAS 78 77 25 3 75, ⟨some 79, .binOp .leq 3 (.tmp 78) (.const (.int .i64 6)) 3, 4, some (75, true)⟩, oU 80 75 79 4, oA 81 80 4, oAC 82 29 1 6 0 81, oAD 83 26 82 26 81, oAS 84 83 26 3 81, ⟨some 85, .binOp .leq 3 (.tmp 84) (.const (.int .i64 6)) 3, 4, some (81, true)⟩, oU 86 81 85 4, oA 87 86 4, oAC 88 29 1 7 0 87, oAD 89 27 88 27 87, oAS 90 89 27 3 87, ⟨some 91, .binOp .leq 3 (.tmp 90) (.const (.int .i64 10)) 3, 4, some (87, true)⟩, oU 92 87 91 4, oB 6 92 4]) (.seq (.ops [oA 93 6 4, oA 94 93 4, oAC 95 29 1 0 0 94, oAD 96 9 95 9 94, oAL 97 109 96 9 4 94, oU 98 94 97 4, oA 99 98 4, oAC 100 29 1 1 0 99, oAD 101 9 100 9 99, oAL 102 112 101 9 4 99, oU 103 99 102 4, oA 104 103 4, oAC 105 29 1 2 0 104, oAD 106 23 105 23 104, oAL 107 113 106 23 4 104, oU 108 104 107 4, oA 109 108 4, oAC 110 29 1 3 0 109, oAD 111 24 110 24 109, oAL 112 114 111 24 4 109, oU 113 109 112 4, oA 114 113 4, oAC 115 29 1 4 0 114, oAD 116 24 115 24 114, oAL 117 114 116 24 4 114, oU 118 114 117 4, oB 2 118 4]) (.ret))
@[simp] theorem q38c6R : type_of% (run_is q38c6.eq_1) := run_is rfl
def q38c7 : QCode := .seq (.seq (.ops [oG 5 0 3]) (.block 4 (.loop q38l2))) (q38c6)
@[simp] theorem q38c7R : type_of% (run_is q38c7.eq_1) := run_is rfl
def q38c8 : QCode := .seq (.seq (.ops [oG 4 0 3]) (.block 2 (.loop q38l1))) (q38c7)
@[simp] theorem q38c8R : type_of% (run_is q38c8.eq_1) := run_is rfl
@[simp] def q38 : QFn := ⟨119, [(.tmp 2, 4)], .seq (.ops [oO 1 29 0 0, oE 2 4]) (.seq (.seq (.ops [oG 3 0 3]) (.block 0 (.loop q38l0))) (q38c8))⟩
theorem Cv38 : convF Tryz.f38 = some q38 := by kernel_rfl
abbrev Fn39 : FuncId := 39
def q39c0 : QCode := .ops [oA 19 4 3, oH 20 3 19 1 3 3, oB 4 20 3]
@[simp] theorem q39c0R : type_of% (run_is q39c0.eq_1) := run_is rfl
def q39c1 : QCode := .seq (.block 1 (.ops [oA 21 3 27, oD 22 29 1 2 0, oC 23 23 22 23, oA 24 4 3, oM 25 23 23 24 0, oD 26 33 25 0 0, oC 27 9 26 9, oAA 28 27 1 0 27 27, oAB 29 21 28 27 27 27, oB 3 29 27])) (q39c0)
@[simp] theorem q39c1R : type_of% (run_is q39c1.eq_1) := run_is rfl
def q39l0 : QCode := .seq (.seq (.ops [oA 14 4 3, oD 15 29 1 2 0, oC 16 23 15 23, oF 17 16 23 3, oJ 18 3 14 17 3 4]) (.cond (.tmp 18) (.skip) (.exit 0))) (q39c1)
@[simp] theorem q39l0R : type_of% (run_is q39l0.eq_1) := run_is rfl
def q39c2 : QCode := .ops [oA 36 6 3, oH 37 3 36 1 3 3, oB 6 37 3]
@[simp] theorem q39c2R : type_of% (run_is q39c2.eq_1) := run_is rfl
def q39c3 : QCode := .seq (.block 3 (.ops [oA 38 5 27, oD 39 29 1 3 0, oC 40 24 39 24, oA 41 6 3, oM 42 24 40 41 0, oD 43 94 42 0 0, oC 44 9 43 9, oAA 45 27 1 0 44 27, oAB 46 38 45 27 27 27, oB 5 46 27])) (q39c2)
@[simp] theorem q39c3R : type_of% (run_is q39c3.eq_1) := run_is rfl
def q39l1 : QCode := .seq (.seq (.ops [oA 31 6 3, oD 32 29 1 3 0, oC 33 24 32 24, oF 34 33 24 3, oJ 35 3 31 34 3 4]) (.cond (.tmp 35) (.skip) (.exit 2))) (q39c3)
@[simp] theorem q39l1R : type_of% (run_is q39l1.eq_1) := run_is rfl
def q39c4 : QCode := .ops [oA 55 8 3, oH 56 3 55 1 3 3, oB 8 56 3]
@[simp] theorem q39c4R : type_of% (run_is q39c4.eq_1) := run_is rfl
def q39c5 : QCode := .seq (.block 5 (.ops [oA 57 7 27, oD 58 29 1 4 0, oC 59 24 58 24, oA 60 8 3, oM 61 24 59 60 0, oD 62 94 61 0 0, oC 63 9 62 9, oAA 64 27 1 0 63 27, oAB 65 57 64 27 27 27, oB 7 65 27])) (q39c4)
@[simp] theorem q39c5R : type_of% (run_is q39c5.eq_1) := run_is rfl
def q39l2 : QCode := .seq (.seq (.ops [oA 50 8 3, oD 51 29 1 4 0, oC 52 24 51 24, oF 53 52 24 3, oJ 54 3 50 53 3 4]) (.cond (.tmp 54) (.skip) (.exit 4))) (q39c5)
@[simp] theorem q39l2R : type_of% (run_is q39l2.eq_1) := run_is rfl
def q39c6 : QCode := .ops [oA 72 10 3, oH 73 3 72 1 3 3, oB 10 73 3]
@[simp] theorem q39c6R : type_of% (run_is q39c6.eq_1) := run_is rfl
def q39c7 : QCode := .seq (.block 7 (.ops [oA 74 9 27, oD 75 29 1 5 0, oC 76 25 75 25, oA 77 10 3, oM 78 25 76 77 0, oD 79 97 78 0 0, oC 80 9 79 9, oAA 81 27 1 0 80 27, oAB 82 74 81 27 27 27, oB 9 82 27])) (q39c6)
@[simp] theorem q39c7R : type_of% (run_is q39c7.eq_1) := run_is rfl
def q39l3 : QCode := .seq (.seq (.ops [oA 67 10 3, oD 68 29 1 5 0, oC 69 25 68 25, oF 70 69 25 3, oJ 71 3 67 70 3 4]) (.cond (.tmp 71) (.skip) (.exit 6))) (q39c7)
@[simp] theorem q39l3R : type_of% (run_is q39l3.eq_1) := run_is rfl
def q39c8 : QCode := .ops [oA 91 12 3, oH 92 3 91 1 3 3, oB 12 92 3]
@[simp] theorem q39c8R : type_of% (run_is q39c8.eq_1) := run_is rfl
def q39c9 : QCode := .seq (.block 9 (.ops [oA 93 11 27, oD 94 29 1 6 0, oC 95 26 94 26, oA 96 12 3, oM 97 26 95 96 0, oD 98 35 97 0 0, oC 99 9 98 9, oAA 100 27 1 0 99 27, oAB 101 93 100 27 27 27, oB 11 101 27])) (q39c8)
@[simp] theorem q39c9R : type_of% (run_is q39c9.eq_1) := run_is rfl
def q39l4 : QCode := .seq (.seq (.ops [oA 86 12 3, oD 87 29 1 6 0, oC 88 26 87 26, oF 89 88 26 3, oJ 90 3 86 89 3 4]) (.cond (.tmp 90) (.skip) (.exit 8))) (q39c9)
@[simp] theorem q39l4R : type_of% (run_is q39l4.eq_1) := run_is rfl
def q39c10 : QCode := .seq (.ops [oA 102 3 27, oI 103 115 102 27 4, oA 104 103 4, oK 105 5 27 104, oAO 106 115 105 27 4 104, oP 107 104 106 4, oA 108 107 4, oK 109 7 27 108, oAO 110 115 109 27 4 108, oP 111 108 110 4, oA 112 111 4, oK 113 9 27 112, oAO 114 115 113 27 4 112, oP 115 112 114 4, oA 116 115 4, oK 117 11 27 116, oAO 118 115 117 27 4 116, oP 119 116 118 4, oB 2 119 4]) (.ret)
@[simp] theorem q39c10R : type_of% (run_is q39c10.eq_1) := run_is rfl
def q39c11 : QCode := .seq (.ops [oD 83 29 1 0 0, oC 84 9 83 9, oAA 85 27 1 0 84 27, oB 11 85 27]) (.seq (.seq (.ops [oG 12 0 3]) (.block 8 (.loop q39l4))) (q39c10))
@[simp] theorem q39c11R : type_of% (run_is q39c11.eq_1) := run_is rfl
def q39c12 : QCode := .seq (.ops [⟨some 66, .buildSlice 27 0 #[], 27, none⟩, oB 9 66 27]) (.seq (.seq (.ops [oG 10 0 3]) (.block 6 (.loop q39l3))) (q39c11))
@[simp] theorem q39c12R : type_of% (run_is q39c12.eq_1) := run_is rfl
def q39c13 : QCode := .seq (.ops [oD 47 29 1 0 0, oC 48 9 47 9, oAA 49 27 1 0 48 27, oB 7 49 27]) (.seq (.seq (.ops [oG 8 0 3]) (.block 4 (.loop q39l2))) (q39c12))
@[simp] theorem q39c13R : type_of% (run_is q39c13.eq_1) := run_is rfl
def q39c14 : QCode := .seq (.ops [⟨some 30, .buildSlice 27 0 #[], 27, none⟩, oB 5 30 27]) (.seq (.seq (.ops [oG 6 0 3]) (.block 2 (.loop q39l1))) (q39c13))
@[simp] theorem q39c14R : type_of% (run_is q39c14.eq_1) := run_is rfl
@[simp] def q39 : QFn := ⟨120, [(.tmp 2, 4)], .seq (.ops [oO 1 29 0 0, oE 2 4]) (.seq (.ops [⟨some 13, .buildSlice 27 2 #[(0, .const (.string { data := #[110, 97, 109, 101] })), (1, .const (.string { data := #[118, 101, 114, 115, 105, 111, 110] }))], 27, none⟩, oB 3 13 27]) (.seq (.seq (.ops [oG 4 0 3]) (.block 0 (.loop q39l0))) (q39c14)))⟩
theorem Cv39 : convF Tryz.f39 = some q39 := by kernel_rfl
abbrev Fn40 : FuncId := 40
def q40c0 : QCode := .ops [oA 51 13 3, oH 52 3 51 1 3 3, oB 13 52 3]
@[simp] theorem q40c0R : type_of% (run_is q40c0.eq_1) := run_is rfl
def q40c1 : QCode := .seq (.block 4 (.seq (.ops [oA 53 2 27, oA 54 13 3, oM 55 27 53 54 0, oC 56 9 55 9, oA 57 9 9, ⟨some 58, .binOp .eql 9 (.tmp 56) (.tmp 57) 9, 4, none⟩]) (.cond (.tmp 58) (.seq (.ops [oT 6 9, oG 7 4 3]) (.ret)) (.skip)))) (q40c0)
@[simp] theorem q40c1R : type_of% (run_is q40c1.eq_1) := run_is rfl
def q40l0 : QCode := .seq (.seq (.ops [oA 47 13 3, oA 48 2 27, oF 49 48 27 3, oJ 50 3 47 49 3 4]) (.cond (.tmp 50) (.skip) (.exit 3))) (q40c1)
@[simp] theorem q40l0R : type_of% (run_is q40l0.eq_1) := run_is rfl
def q40c2 : QCode := .seq (.ops [oA 78 8 9, oA 79 14 9, ⟨some 80, .binOp .add 9 (.tmp 78) (.tmp 79) 9, 9, none⟩, oB 8 80 9]) (.seq (.ops [oA 81 10 9, oB 1 81 9]) (.seq (.ops [oA 82 8 9, oF 83 82 9 3, oAM 84 3 83 80 3 4]) (.cond (.tmp 84) (.seq (.ops [oT 6 9, oG 7 5 3]) (.ret)) (.skip))))
@[simp] theorem q40c2R : type_of% (run_is q40c2.eq_1) := run_is rfl
def q40c3 : QCode := .seq (.draw [0] [⟨some 60, .move (.tmp 0), 23, none⟩, ⟨some 61, .move (.tmp 0), 23, none⟩, ⟨some 62, .move (.tmp 12), 3, none⟩, ⟨some 63, .indexAddr 23 (.tmp 61) (.tmp 62), 0, none⟩, ⟨some 64, .fieldAddr 33 (.tmp 63) 1, 0, none⟩, ⟨some 65, .load 9 (.tmp 64), 9, none⟩, ⟨some 66, .buildSlice 27 0 #[], 27, none⟩, ⟨some 67, .move (.tmp 2), 27, none⟩, ⟨some 68, .call { callee := .builtin .append, args := #[.tmp 66, .tmp 67], argTypes := #[27, 27] }, 27, none⟩, ⟨some 69, .move (.tmp 9), 9, none⟩, ⟨some 70, .buildSlice 27 1 #[(0, .tmp 69)], 27, none⟩, ⟨some 71, .call { callee := .builtin .append, args := #[.tmp 68, .tmp 70], argTypes := #[27, 27] }, 27, none⟩, ⟨some 72, .call { callee := .value (.func 40), args := #[.tmp 60, .tmp 65, .tmp 71], argTypes := #[23, 9, 27] }, 63, none⟩, ⟨some 59, .move (.tmp 72), 63, none⟩, ⟨some 73, .extract (.tmp 59) 0, 9, none⟩, ⟨some 74, .extract (.tmp 59) 1, 3, none⟩, ⟨some 14, .assign (.tmp 73), 9, none⟩] [⟨some 15, .assign (.tmp 74), 3, none⟩]) (.seq (.seq (.ops [oA 75 15 3, ⟨some 76, .binOp .neq 3 (.tmp 75) (.const (.int .i64 0)) 3, 4, none⟩]) (.cond (.tmp 76) (.seq (.ops [oA 77 15 3, oT 6 9, oB 7 77 3]) (.ret)) (.skip))) (q40c2))
@[simp] theorem q40c3R : type_of% (run_is q40c3.eq_1) := run_is rfl
def q40c4 : QCode := .seq (.seq (.ops [oG 13 0 3]) (.block 3 (.loop q40l0))) (q40c3)
@[simp] theorem q40c4R : type_of% (run_is q40c4.eq_1) := run_is rfl
def q40c5 : QCode := .seq (.ops [oA 33 1 9, oI 34 116 33 9 134, oA 32 34 134, oS 35 32 0 9, oS 36 32 1 9, oS 37 32 2 4, oB 9 35 9, oB 10 36 9, oB 11 37 4]) (.seq (.ops [oA 38 0 23, oA 39 9 9, oN 40 117 38 39 23 9 3, oB 12 40 3]) (.seq (.block 2 (.seq (.ops [oA 42 11 4, oR 43 4 42 4, oB 41 43 4]) (.cond (.tmp 41) (.seq (.ops [oT 6 9, oG 7 1 3]) (.ret)) (.seq (.ops [oA 45 12 3, oV 46 3 45 0 3 4, oB 44 46 4]) (.cond (.tmp 44) (.seq (.ops [oT 6 9, oG 7 3 3]) (.ret)) (.skip)))))) (q40c4)))
@[simp] theorem q40c5R : type_of% (run_is q40c5.eq_1) := run_is rfl
def q40c6 : QCode := .block 1 (.seq (.seq (.ops [oA 18 1 9, oF 19 18 9 3, oV 20 3 19 2 3 4, oA 21 20 4, oK 22 1 9 21, ⟨some 23, .slice 9 (.tmp 22) none (some (.const (.int .i64 2))) none, 9, some (21, false)⟩, ⟨some 24, .binOp .neq 9 (.tmp 23) (.const (.string { data := #[36, 123] })) 9, 4, some (21, false)⟩, oP 25 21 24 4]) (.cond (.tmp 25) (.seq (.ops [oA 26 8 9, oA 27 1 9, ⟨some 28, .slice 9 (.tmp 27) none (some (.const (.int .i64 1))) none, 9, none⟩, ⟨some 29, .binOp .add 9 (.tmp 26) (.tmp 28) 9, 9, none⟩, oB 8 29 9]) (.seq (.ops [oA 30 1 9, ⟨some 31, .slice 9 (.tmp 30) (some (.const (.int .i64 1))) none none, 9, none⟩, oB 1 31 9]) (.exit 1))) (.skip))) (q40c5))
@[simp] theorem q40c6R : type_of% (run_is q40c6.eq_1) := run_is rfl
def q40l1 : QCode := .seq (.seq (.ops [oA 16 1 9, ⟨some 17, .binOp .neq 9 (.tmp 16) (.const (.string { data := #[] })) 9, 4, none⟩]) (.cond (.tmp 17) (.skip) (.exit 0))) (q40c6)
@[simp] theorem q40l1R : type_of% (run_is q40l1.eq_1) := run_is rfl
def q40c7 : QCode := .seq (.ops [oA 88 8 9, oB 6 88 9, oG 7 0 3]) (.ret)
@[simp] theorem q40c7R : type_of% (run_is q40c7.eq_1) := run_is rfl
def q40c8 : QCode := .seq (.seq (.ops [oA 85 8 9, oF 86 85 9 3, oAM 87 3 86 80 3 4]) (.cond (.tmp 87) (.seq (.ops [oT 6 9, oG 7 5 3]) (.ret)) (.skip))) (q40c7)
@[simp] theorem q40c8R : type_of% (run_is q40c8.eq_1) := run_is rfl
@[simp] def q40 : QFn := ⟨89, [(.tmp 6, 9), (.tmp 7, 3)], .seq (.ops [oT 6 9, oG 7 0 3]) (.seq (.ops [oT 8 9]) (.seq (.block 0 (.loop q40l1)) (q40c8)))⟩
theorem Cv40 : convF Tryz.f40 = some q40 := by kernel_rfl
abbrev Fn41 : FuncId := 41
@[simp] def q41 : QFn := ⟨13, [(.tmp 2, 23)], .seq (.ops [oO 1 29 0 0, oZ 2 23]) (.seq (.ops [oD 3 29 1 0 0, oC 4 9 3 9, ⟨some 5, .build 33 #[(0, .const (.string { data := #[110, 97, 109, 101] })), (1, .tmp 4)], 33, none⟩, oD 6 29 1 1 0, oC 7 9 6 9, ⟨some 8, .build 33 #[(0, .const (.string { data := #[118, 101, 114, 115, 105, 111, 110] })), (1, .tmp 7)], 33, none⟩, ⟨some 9, .buildSlice 23 2 #[(0, .tmp 5), (1, .tmp 8)], 23, none⟩, oD 10 29 1 2 0, oC 11 23 10 23, oAB 12 9 11 23 23 23, oB 2 12 23]) (.ret))⟩
theorem Cv41 : convF Tryz.f41 = some q41 := by kernel_rfl
abbrev Fn42 : FuncId := 42
def q42c0 : QCode := .ops [oA 16 5 3, oH 17 3 16 1 3 3, oB 5 17 3]
@[simp] theorem q42c0R : type_of% (run_is q42c0.eq_1) := run_is rfl
def q42c1 : QCode := .seq (.block 1 (.seq (.ops [oA 18 0 39, oA 19 5 3, oM 20 39 18 19 0, oC 21 138 20 138, oA 22 1 3, oN 23 118 21 22 138 3 3, oB 1 23 3]) (.seq (.ops [oA 24 1 3, oV 25 3 24 0 3 4]) (.cond (.tmp 25) (.seq (.ops [oX 4 3]) (.ret)) (.skip))))) (q42c0)
@[simp] theorem q42c1R : type_of% (run_is q42c1.eq_1) := run_is rfl
def q42l0 : QCode := .seq (.seq (.ops [oA 12 5 3, oA 13 0 39, oF 14 13 39 3, oJ 15 3 12 14 3 4]) (.cond (.tmp 15) (.skip) (.exit 0))) (q42c1)
@[simp] theorem q42l0R : type_of% (run_is q42l0.eq_1) := run_is rfl
def q42c2 : QCode := .seq (.ops [oA 26 1 3, oB 4 26 3]) (.ret)
@[simp] theorem q42c2R : type_of% (run_is q42c2.eq_1) := run_is rfl
def q42c3 : QCode := .seq (.seq (.ops [oG 5 0 3]) (.block 0 (.loop q42l0))) (q42c2)
@[simp] theorem q42c3R : type_of% (run_is q42c3.eq_1) := run_is rfl
@[simp] def q42 : QFn := ⟨27, [(.tmp 4, 3)], .seq (.ops [oG 4 0 3]) (.seq (.ops [oA 6 1 3, oA 7 0 39, oF 8 7 39 3, oAH 9 3 6 8 3 3, oB 1 9 3]) (.seq (.seq (.ops [oA 10 1 3, oV 11 3 10 0 3 4]) (.cond (.tmp 11) (.seq (.ops [oX 4 3]) (.ret)) (.skip))) (q42c3)))⟩
theorem Cv42 : convF Tryz.f42 = some q42 := by kernel_rfl
abbrev Fn43 : FuncId := 43
def q43c0 : QCode := .ops [oA 16 5 3, oH 17 3 16 1 3 3, oB 5 17 3]
@[simp] theorem q43c0R : type_of% (run_is q43c0.eq_1) := run_is rfl
def q43c1 : QCode := .seq (.block 1 (.seq (.ops [oA 18 0 40, oA 19 5 3, oM 20 40 18 19 0, oC 21 140 20 140, oA 22 1 3, oN 23 119 21 22 140 3 3, oB 1 23 3]) (.seq (.ops [oA 24 1 3, oV 25 3 24 0 3 4]) (.cond (.tmp 25) (.seq (.ops [oX 4 3]) (.ret)) (.skip))))) (q43c0)
@[simp] theorem q43c1R : type_of% (run_is q43c1.eq_1) := run_is rfl
def q43l0 : QCode := .seq (.seq (.ops [oA 12 5 3, oA 13 0 40, oF 14 13 40 3, oJ 15 3 12 14 3 4]) (.cond (.tmp 15) (.skip) (.exit 0))) (q43c1)
@[simp] theorem q43l0R : type_of% (run_is q43l0.eq_1) := run_is rfl
def q43c2 : QCode := .seq (.ops [oA 26 1 3, oB 4 26 3]) (.ret)
@[simp] theorem q43c2R : type_of% (run_is q43c2.eq_1) := run_is rfl
def q43c3 : QCode := .seq (.seq (.ops [oG 5 0 3]) (.block 0 (.loop q43l0))) (q43c2)
@[simp] theorem q43c3R : type_of% (run_is q43c3.eq_1) := run_is rfl
@[simp] def q43 : QFn := ⟨27, [(.tmp 4, 3)], .seq (.ops [oG 4 0 3]) (.seq (.ops [oA 6 1 3, oA 7 0 40, oF 8 7 40 3, oAH 9 3 6 8 3 3, oB 1 9 3]) (.seq (.seq (.ops [oA 10 1 3, oV 11 3 10 0 3 4]) (.cond (.tmp 11) (.seq (.ops [oX 4 3]) (.ret)) (.skip))) (q43c3)))⟩
theorem Cv43 : convF Tryz.f43 = some q43 := by kernel_rfl
abbrev Fn44 : FuncId := 44
def q44c0 : QCode := .ops [oA 16 5 3, oH 17 3 16 1 3 3, oB 5 17 3]
@[simp] theorem q44c0R : type_of% (run_is q44c0.eq_1) := run_is rfl
def q44c1 : QCode := .seq (.block 1 (.seq (.ops [oA 18 0 41, oA 19 5 3, oM 20 41 18 19 0, oC 21 142 20 142, oA 22 1 3, oN 23 120 21 22 142 3 3, oB 1 23 3]) (.seq (.ops [oA 24 1 3, oV 25 3 24 0 3 4]) (.cond (.tmp 25) (.seq (.ops [oX 4 3]) (.ret)) (.skip))))) (q44c0)
@[simp] theorem q44c1R : type_of% (run_is q44c1.eq_1) := run_is rfl
def q44l0 : QCode := .seq (.seq (.ops [oA 12 5 3, oA 13 0 41, oF 14 13 41 3, oJ 15 3 12 14 3 4]) (.cond (.tmp 15) (.skip) (.exit 0))) (q44c1)
@[simp] theorem q44l0R : type_of% (run_is q44l0.eq_1) := run_is rfl
def q44c2 : QCode := .seq (.ops [oA 26 1 3, oB 4 26 3]) (.ret)
@[simp] theorem q44c2R : type_of% (run_is q44c2.eq_1) := run_is rfl
def q44c3 : QCode := .seq (.seq (.ops [oG 5 0 3]) (.block 0 (.loop q44l0))) (q44c2)
@[simp] theorem q44c3R : type_of% (run_is q44c3.eq_1) := run_is rfl
@[simp] def q44 : QFn := ⟨27, [(.tmp 4, 3)], .seq (.ops [oG 4 0 3]) (.seq (.ops [oA 6 1 3, oA 7 0 41, oF 8 7 41 3, oAH 9 3 6 8 3 3, oB 1 9 3]) (.seq (.seq (.ops [oA 10 1 3, oV 11 3 10 0 3 4]) (.cond (.tmp 11) (.seq (.ops [oX 4 3]) (.ret)) (.skip))) (q44c3)))⟩
theorem Cv44 : convF Tryz.f44 = some q44 := by kernel_rfl
abbrev Fn45 : FuncId := 45
def q45c0 : QCode := .ops [oA 16 5 3, oH 17 3 16 1 3 3, oB 5 17 3]
@[simp] theorem q45c0R : type_of% (run_is q45c0.eq_1) := run_is rfl
def q45c1 : QCode := .seq (.block 1 (.seq (.ops [oA 18 0 42, oA 19 5 3, oM 20 42 18 19 0, oC 21 144 20 144, oA 22 1 3, oN 23 121 21 22 144 3 3, oB 1 23 3]) (.seq (.ops [oA 24 1 3, oV 25 3 24 0 3 4]) (.cond (.tmp 25) (.seq (.ops [oX 4 3]) (.ret)) (.skip))))) (q45c0)
@[simp] theorem q45c1R : type_of% (run_is q45c1.eq_1) := run_is rfl
def q45l0 : QCode := .seq (.seq (.ops [oA 12 5 3, oA 13 0 42, oF 14 13 42 3, oJ 15 3 12 14 3 4]) (.cond (.tmp 15) (.skip) (.exit 0))) (q45c1)
@[simp] theorem q45l0R : type_of% (run_is q45l0.eq_1) := run_is rfl
def q45c2 : QCode := .seq (.ops [oA 26 1 3, oB 4 26 3]) (.ret)
@[simp] theorem q45c2R : type_of% (run_is q45c2.eq_1) := run_is rfl
def q45c3 : QCode := .seq (.seq (.ops [oG 5 0 3]) (.block 0 (.loop q45l0))) (q45c2)
@[simp] theorem q45c3R : type_of% (run_is q45c3.eq_1) := run_is rfl
@[simp] def q45 : QFn := ⟨27, [(.tmp 4, 3)], .seq (.ops [oG 4 0 3]) (.seq (.ops [oA 6 1 3, oA 7 0 42, oF 8 7 42 3, oAH 9 3 6 8 3 3, oB 1 9 3]) (.seq (.seq (.ops [oA 10 1 3, oV 11 3 10 0 3 4]) (.cond (.tmp 11) (.seq (.ops [oX 4 3]) (.ret)) (.skip))) (q45c3)))⟩
theorem Cv45 : convF Tryz.f45 = some q45 := by kernel_rfl
abbrev Fn46 : FuncId := 46
def q46c0 : QCode := .ops [oA 16 5 3, oH 17 3 16 1 3 3, oB 5 17 3]
@[simp] theorem q46c0R : type_of% (run_is q46c0.eq_1) := run_is rfl
def q46c1 : QCode := .seq (.block 1 (.seq (.ops [oA 18 1 3, oA 19 0 27, oA 20 5 3, oM 21 27 19 20 0, oC 22 9 21 9, oF 23 22 9 3, oAH 24 3 18 23 3 3, oB 1 24 3]) (.seq (.ops [oA 25 1 3, oV 26 3 25 0 3 4]) (.cond (.tmp 26) (.seq (.ops [oX 4 3]) (.ret)) (.skip))))) (q46c0)
@[simp] theorem q46c1R : type_of% (run_is q46c1.eq_1) := run_is rfl
def q46l0 : QCode := .seq (.seq (.ops [oA 12 5 3, oA 13 0 27, oF 14 13 27 3, oJ 15 3 12 14 3 4]) (.cond (.tmp 15) (.skip) (.exit 0))) (q46c1)
@[simp] theorem q46l0R : type_of% (run_is q46l0.eq_1) := run_is rfl
def q46c2 : QCode := .seq (.ops [oA 27 1 3, oB 4 27 3]) (.ret)
@[simp] theorem q46c2R : type_of% (run_is q46c2.eq_1) := run_is rfl
def q46c3 : QCode := .seq (.seq (.ops [oG 5 0 3]) (.block 0 (.loop q46l0))) (q46c2)
@[simp] theorem q46c3R : type_of% (run_is q46c3.eq_1) := run_is rfl
@[simp] def q46 : QFn := ⟨28, [(.tmp 4, 3)], .seq (.ops [oG 4 0 3]) (.seq (.ops [oA 6 1 3, oA 7 0 27, oF 8 7 27 3, oAH 9 3 6 8 3 3, oB 1 9 3]) (.seq (.seq (.ops [oA 10 1 3, oV 11 3 10 0 3 4]) (.cond (.tmp 11) (.seq (.ops [oX 4 3]) (.ret)) (.skip))) (q46c3)))⟩
theorem Cv46 : convF Tryz.f46 = some q46 := by kernel_rfl
abbrev Fn47 : FuncId := 47
def q47c0 : QCode := .ops [oA 12 4 3, oH 13 3 12 1 3 3, oB 4 13 3]
@[simp] theorem q47c0R : type_of% (run_is q47c0.eq_1) := run_is rfl
def q47c1 : QCode := .seq (.block 1 (.ops [oA 14 3 23, oA 15 4 3, oA 16 0 39, oA 17 4 3, oM 18 39 16 17 0, oC 19 138 18 138, oI 20 122 19 138 33, oM 21 23 14 15 0, oL 33 21 20 0])) (q47c0)
@[simp] theorem q47c1R : type_of% (run_is q47c1.eq_1) := run_is rfl
def q47l0 : QCode := .seq (.seq (.ops [oA 8 4 3, oA 9 0 39, oF 10 9 39 3, oJ 11 3 8 10 3 4]) (.cond (.tmp 11) (.skip) (.exit 0))) (q47c1)
@[simp] theorem q47l0R : type_of% (run_is q47l0.eq_1) := run_is rfl
def q47c2 : QCode := .seq (.ops [oA 22 3 23, oB 2 22 23]) (.ret)
@[simp] theorem q47c2R : type_of% (run_is q47c2.eq_1) := run_is rfl
@[simp] def q47 : QFn := ⟨23, [(.tmp 2, 23)], .seq (.ops [oZ 2 23]) (.seq (.ops [oA 5 0 39, oF 6 5 39 3, ⟨some 7, .makeSlice 23 (.tmp 6) (.tmp 6), 23, none⟩, oB 3 7 23]) (.seq (.seq (.ops [oG 4 0 3]) (.block 0 (.loop q47l0))) (q47c2)))⟩
theorem Cv47 : convF Tryz.f47 = some q47 := by kernel_rfl
abbrev Fn48 : FuncId := 48
def q48c0 : QCode := .ops [oA 12 4 3, oH 13 3 12 1 3 3, oB 4 13 3]
@[simp] theorem q48c0R : type_of% (run_is q48c0.eq_1) := run_is rfl
def q48c1 : QCode := .seq (.block 1 (.ops [oA 14 3 24, oA 15 4 3, oA 16 0 40, oA 17 4 3, oM 18 40 16 17 0, oC 19 140 18 140, oI 20 123 19 140 94, oM 21 24 14 15 0, oL 94 21 20 0])) (q48c0)
@[simp] theorem q48c1R : type_of% (run_is q48c1.eq_1) := run_is rfl
def q48l0 : QCode := .seq (.seq (.ops [oA 8 4 3, oA 9 0 40, oF 10 9 40 3, oJ 11 3 8 10 3 4]) (.cond (.tmp 11) (.skip) (.exit 0))) (q48c1)
@[simp] theorem q48l0R : type_of% (run_is q48l0.eq_1) := run_is rfl
def q48c2 : QCode := .seq (.ops [oA 22 3 24, oB 2 22 24]) (.ret)
@[simp] theorem q48c2R : type_of% (run_is q48c2.eq_1) := run_is rfl
@[simp] def q48 : QFn := ⟨23, [(.tmp 2, 24)], .seq (.ops [oZ 2 24]) (.seq (.ops [oA 5 0 40, oF 6 5 40 3, ⟨some 7, .makeSlice 24 (.tmp 6) (.tmp 6), 24, none⟩, oB 3 7 24]) (.seq (.seq (.ops [oG 4 0 3]) (.block 0 (.loop q48l0))) (q48c2)))⟩
theorem Cv48 : convF Tryz.f48 = some q48 := by kernel_rfl
abbrev Fn49 : FuncId := 49
def q49c0 : QCode := .ops [oA 12 4 3, oH 13 3 12 1 3 3, oB 4 13 3]
@[simp] theorem q49c0R : type_of% (run_is q49c0.eq_1) := run_is rfl
def q49c1 : QCode := .seq (.block 1 (.ops [oA 14 3 25, oA 15 4 3, oA 16 0 41, oA 17 4 3, oM 18 41 16 17 0, oC 19 142 18 142, oI 20 124 19 142 97, oM 21 25 14 15 0, oL 97 21 20 0])) (q49c0)
@[simp] theorem q49c1R : type_of% (run_is q49c1.eq_1) := run_is rfl
def q49l0 : QCode := .seq (.seq (.ops [oA 8 4 3, oA 9 0 41, oF 10 9 41 3, oJ 11 3 8 10 3 4]) (.cond (.tmp 11) (.skip) (.exit 0))) (q49c1)
@[simp] theorem q49l0R : type_of% (run_is q49l0.eq_1) := run_is rfl
def q49c2 : QCode := .seq (.ops [oA 22 3 25, oB 2 22 25]) (.ret)
@[simp] theorem q49c2R : type_of% (run_is q49c2.eq_1) := run_is rfl
@[simp] def q49 : QFn := ⟨23, [(.tmp 2, 25)], .seq (.ops [oZ 2 25]) (.seq (.ops [oA 5 0 41, oF 6 5 41 3, ⟨some 7, .makeSlice 25 (.tmp 6) (.tmp 6), 25, none⟩, oB 3 7 25]) (.seq (.seq (.ops [oG 4 0 3]) (.block 0 (.loop q49l0))) (q49c2)))⟩
theorem Cv49 : convF Tryz.f49 = some q49 := by kernel_rfl
abbrev Fn50 : FuncId := 50
def q50c0 : QCode := .ops [oA 12 4 3, oH 13 3 12 1 3 3, oB 4 13 3]
@[simp] theorem q50c0R : type_of% (run_is q50c0.eq_1) := run_is rfl
def q50c1 : QCode := .seq (.block 1 (.ops [oA 14 3 26, oA 15 4 3, oA 16 0 42, oA 17 4 3, oM 18 42 16 17 0, oC 19 144 18 144, oI 20 125 19 144 35, oM 21 26 14 15 0, oL 35 21 20 0])) (q50c0)
@[simp] theorem q50c1R : type_of% (run_is q50c1.eq_1) := run_is rfl
def q50l0 : QCode := .seq (.seq (.ops [oA 8 4 3, oA 9 0 42, oF 10 9 42 3, oJ 11 3 8 10 3 4]) (.cond (.tmp 11) (.skip) (.exit 0))) (q50c1)
@[simp] theorem q50l0R : type_of% (run_is q50l0.eq_1) := run_is rfl
def q50c2 : QCode := .seq (.ops [oA 22 3 26, oB 2 22 26]) (.ret)
@[simp] theorem q50c2R : type_of% (run_is q50c2.eq_1) := run_is rfl
@[simp] def q50 : QFn := ⟨23, [(.tmp 2, 26)], .seq (.ops [oZ 2 26]) (.seq (.ops [oA 5 0 42, oF 6 5 42 3, ⟨some 7, .makeSlice 26 (.tmp 6) (.tmp 6), 26, none⟩, oB 3 7 26]) (.seq (.seq (.ops [oG 4 0 3]) (.block 0 (.loop q50l0))) (q50c2)))⟩
theorem Cv50 : convF Tryz.f50 = some q50 := by kernel_rfl
abbrev Fn51 : FuncId := 51
def q51c0 : QCode := .ops [oA 12 4 3, oH 13 3 12 1 3 3, oB 4 13 3]
@[simp] theorem q51c0R : type_of% (run_is q51c0.eq_1) := run_is rfl
def q51c1 : QCode := .seq (.block 1 (.ops [oA 14 3 27, oA 15 4 3, oA 16 0 27, oA 17 4 3, oM 18 27 16 17 0, oC 19 9 18 9, oM 20 27 14 15 0, oL 9 20 19 0])) (q51c0)
@[simp] theorem q51c1R : type_of% (run_is q51c1.eq_1) := run_is rfl
def q51l0 : QCode := .seq (.seq (.ops [oA 8 4 3, oA 9 0 27, oF 10 9 27 3, oJ 11 3 8 10 3 4]) (.cond (.tmp 11) (.skip) (.exit 0))) (q51c1)
@[simp] theorem q51l0R : type_of% (run_is q51l0.eq_1) := run_is rfl
def q51c2 : QCode := .seq (.ops [oA 21 3 27, oB 2 21 27]) (.ret)
@[simp] theorem q51c2R : type_of% (run_is q51c2.eq_1) := run_is rfl
@[simp] def q51 : QFn := ⟨22, [(.tmp 2, 27)], .seq (.ops [oZ 2 27]) (.seq (.ops [oA 5 0 27, oF 6 5 27 3, ⟨some 7, .makeSlice 27 (.tmp 6) (.tmp 6), 27, none⟩, oB 3 7 27]) (.seq (.seq (.ops [oG 4 0 3]) (.block 0 (.loop q51l0))) (q51c2)))⟩
theorem Cv51 : convF Tryz.f51 = some q51 := by kernel_rfl
abbrev Fn52 : FuncId := 52
def q52c0 : QCode := .ops [oA 15 5 3, oH 16 3 15 1 3 3, oB 5 16 3]
@[simp] theorem q52c0R : type_of% (run_is q52c0.eq_1) := run_is rfl
def q52c1 : QCode := .seq (.block 1 (.seq (.draw [] [⟨some 17, .move (.tmp 0), 23, none⟩, ⟨some 18, .move (.tmp 5), 3, none⟩, ⟨some 19, .indexAddr 23 (.tmp 17) (.tmp 18), 0, none⟩, ⟨some 20, .load 33 (.tmp 19), 33, none⟩, ⟨some 21, .move (.tmp 1), 23, none⟩, ⟨some 22, .move (.tmp 5), 3, none⟩, ⟨some 23, .indexAddr 23 (.tmp 21) (.tmp 22), 0, none⟩, ⟨some 24, .load 33 (.tmp 23), 33, none⟩] [⟨some 25, .call { callee := .value (.func 126), args := #[.tmp 20, .tmp 24], argTypes := #[33, 33] }, 4, none⟩, ⟨some 26, .unOp .not 4 (.tmp 25), 4, none⟩]) (.cond (.tmp 26) (.seq (.ops [oE 4 4]) (.ret)) (.skip)))) (q52c0)
@[simp] theorem q52c1R : type_of% (run_is q52c1.eq_1) := run_is rfl
def q52l0 : QCode := .seq (.seq (.ops [oA 11 5 3, oA 12 0 23, oF 13 12 23 3, oJ 14 3 11 13 3 4]) (.cond (.tmp 14) (.skip) (.exit 0))) (q52c1)
@[simp] theorem q52l0R : type_of% (run_is q52l0.eq_1) := run_is rfl
def q52c2 : QCode := .seq (.ops [oY 4 4]) (.ret)
@[simp] theorem q52c2R : type_of% (run_is q52c2.eq_1) := run_is rfl
def q52c3 : QCode := .seq (.seq (.ops [oG 5 0 3]) (.block 0 (.loop q52l0))) (q52c2)
@[simp] theorem q52c3R : type_of% (run_is q52c3.eq_1) := run_is rfl
@[simp] def q52 : QFn := ⟨27, [(.tmp 4, 4)], .seq (.ops [oE 4 4]) (.seq (.seq (.ops [oA 6 0 23, oF 7 6 23 3, oA 8 1 23, oF 9 8 23 3, oAE 10 3 7 9 3 4]) (.cond (.tmp 10) (.seq (.ops [oE 4 4]) (.ret)) (.skip))) (q52c3))⟩
theorem Cv52 : convF Tryz.f52 = some q52 := by kernel_rfl
abbrev Fn53 : FuncId := 53
def q53c0 : QCode := .ops [oA 15 5 3, oH 16 3 15 1 3 3, oB 5 16 3]
@[simp] theorem q53c0R : type_of% (run_is q53c0.eq_1) := run_is rfl
def q53c1 : QCode := .seq (.block 1 (.seq (.draw [] [⟨some 17, .move (.tmp 0), 24, none⟩, ⟨some 18, .move (.tmp 5), 3, none⟩, ⟨some 19, .indexAddr 24 (.tmp 17) (.tmp 18), 0, none⟩, ⟨some 20, .load 94 (.tmp 19), 94, none⟩, ⟨some 21, .move (.tmp 1), 24, none⟩, ⟨some 22, .move (.tmp 5), 3, none⟩, ⟨some 23, .indexAddr 24 (.tmp 21) (.tmp 22), 0, none⟩, ⟨some 24, .load 94 (.tmp 23), 94, none⟩] [⟨some 25, .call { callee := .value (.func 127), args := #[.tmp 20, .tmp 24], argTypes := #[94, 94] }, 4, none⟩, ⟨some 26, .unOp .not 4 (.tmp 25), 4, none⟩]) (.cond (.tmp 26) (.seq (.ops [oE 4 4]) (.ret)) (.skip)))) (q53c0)
@[simp] theorem q53c1R : type_of% (run_is q53c1.eq_1) := run_is rfl
def q53l0 : QCode := .seq (.seq (.ops [oA 11 5 3, oA 12 0 24, oF 13 12 24 3, oJ 14 3 11 13 3 4]) (.cond (.tmp 14) (.skip) (.exit 0))) (q53c1)
@[simp] theorem q53l0R : type_of% (run_is q53l0.eq_1) := run_is rfl
def q53c2 : QCode := .seq (.ops [oY 4 4]) (.ret)
@[simp] theorem q53c2R : type_of% (run_is q53c2.eq_1) := run_is rfl
def q53c3 : QCode := .seq (.seq (.ops [oG 5 0 3]) (.block 0 (.loop q53l0))) (q53c2)
@[simp] theorem q53c3R : type_of% (run_is q53c3.eq_1) := run_is rfl
@[simp] def q53 : QFn := ⟨27, [(.tmp 4, 4)], .seq (.ops [oE 4 4]) (.seq (.seq (.ops [oA 6 0 24, oF 7 6 24 3, oA 8 1 24, oF 9 8 24 3, oAE 10 3 7 9 3 4]) (.cond (.tmp 10) (.seq (.ops [oE 4 4]) (.ret)) (.skip))) (q53c3))⟩
theorem Cv53 : convF Tryz.f53 = some q53 := by kernel_rfl
abbrev Fn54 : FuncId := 54
def q54c0 : QCode := .ops [oA 15 5 3, oH 16 3 15 1 3 3, oB 5 16 3]
@[simp] theorem q54c0R : type_of% (run_is q54c0.eq_1) := run_is rfl
def q54c1 : QCode := .seq (.block 1 (.seq (.draw [] [⟨some 17, .move (.tmp 0), 25, none⟩, ⟨some 18, .move (.tmp 5), 3, none⟩, ⟨some 19, .indexAddr 25 (.tmp 17) (.tmp 18), 0, none⟩, ⟨some 20, .load 97 (.tmp 19), 97, none⟩, ⟨some 21, .move (.tmp 1), 25, none⟩, ⟨some 22, .move (.tmp 5), 3, none⟩, ⟨some 23, .indexAddr 25 (.tmp 21) (.tmp 22), 0, none⟩, ⟨some 24, .load 97 (.tmp 23), 97, none⟩] [⟨some 25, .call { callee := .value (.func 128), args := #[.tmp 20, .tmp 24], argTypes := #[97, 97] }, 4, none⟩, ⟨some 26, .unOp .not 4 (.tmp 25), 4, none⟩]) (.cond (.tmp 26) (.seq (.ops [oE 4 4]) (.ret)) (.skip)))) (q54c0)
@[simp] theorem q54c1R : type_of% (run_is q54c1.eq_1) := run_is rfl
def q54l0 : QCode := .seq (.seq (.ops [oA 11 5 3, oA 12 0 25, oF 13 12 25 3, oJ 14 3 11 13 3 4]) (.cond (.tmp 14) (.skip) (.exit 0))) (q54c1)
@[simp] theorem q54l0R : type_of% (run_is q54l0.eq_1) := run_is rfl
def q54c2 : QCode := .seq (.ops [oY 4 4]) (.ret)
@[simp] theorem q54c2R : type_of% (run_is q54c2.eq_1) := run_is rfl
def q54c3 : QCode := .seq (.seq (.ops [oG 5 0 3]) (.block 0 (.loop q54l0))) (q54c2)
@[simp] theorem q54c3R : type_of% (run_is q54c3.eq_1) := run_is rfl
@[simp] def q54 : QFn := ⟨27, [(.tmp 4, 4)], .seq (.ops [oE 4 4]) (.seq (.seq (.ops [oA 6 0 25, oF 7 6 25 3, oA 8 1 25, oF 9 8 25 3, oAE 10 3 7 9 3 4]) (.cond (.tmp 10) (.seq (.ops [oE 4 4]) (.ret)) (.skip))) (q54c3))⟩
theorem Cv54 : convF Tryz.f54 = some q54 := by kernel_rfl
abbrev Fn55 : FuncId := 55
def q55c0 : QCode := .ops [oA 15 5 3, oH 16 3 15 1 3 3, oB 5 16 3]
@[simp] theorem q55c0R : type_of% (run_is q55c0.eq_1) := run_is rfl
def q55c1 : QCode := .seq (.block 1 (.seq (.draw [] [⟨some 17, .move (.tmp 0), 26, none⟩, ⟨some 18, .move (.tmp 5), 3, none⟩, ⟨some 19, .indexAddr 26 (.tmp 17) (.tmp 18), 0, none⟩, ⟨some 20, .load 35 (.tmp 19), 35, none⟩, ⟨some 21, .move (.tmp 1), 26, none⟩, ⟨some 22, .move (.tmp 5), 3, none⟩, ⟨some 23, .indexAddr 26 (.tmp 21) (.tmp 22), 0, none⟩, ⟨some 24, .load 35 (.tmp 23), 35, none⟩] [⟨some 25, .call { callee := .value (.func 129), args := #[.tmp 20, .tmp 24], argTypes := #[35, 35] }, 4, none⟩, ⟨some 26, .unOp .not 4 (.tmp 25), 4, none⟩]) (.cond (.tmp 26) (.seq (.ops [oE 4 4]) (.ret)) (.skip)))) (q55c0)
@[simp] theorem q55c1R : type_of% (run_is q55c1.eq_1) := run_is rfl
def q55l0 : QCode := .seq (.seq (.ops [oA 11 5 3, oA 12 0 26, oF 13 12 26 3, oJ 14 3 11 13 3 4]) (.cond (.tmp 14) (.skip) (.exit 0))) (q55c1)
@[simp] theorem q55l0R : type_of% (run_is q55l0.eq_1) := run_is rfl
def q55c2 : QCode := .seq (.ops [oY 4 4]) (.ret)
@[simp] theorem q55c2R : type_of% (run_is q55c2.eq_1) := run_is rfl
def q55c3 : QCode := .seq (.seq (.ops [oG 5 0 3]) (.block 0 (.loop q55l0))) (q55c2)
@[simp] theorem q55c3R : type_of% (run_is q55c3.eq_1) := run_is rfl
@[simp] def q55 : QFn := ⟨27, [(.tmp 4, 4)], .seq (.ops [oE 4 4]) (.seq (.seq (.ops [oA 6 0 26, oF 7 6 26 3, oA 8 1 26, oF 9 8 26 3, oAE 10 3 7 9 3 4]) (.cond (.tmp 10) (.seq (.ops [oE 4 4]) (.ret)) (.skip))) (q55c3))⟩
theorem Cv55 : convF Tryz.f55 = some q55 := by kernel_rfl
abbrev Fn56 : FuncId := 56
def q56c0 : QCode := .ops [oA 10 5 3, oH 11 3 10 1 3 3, oB 5 11 3]
@[simp] theorem q56c0R : type_of% (run_is q56c0.eq_1) := run_is rfl
def q56c1 : QCode := .seq (.block 1 (.seq (.ops [oA 12 0 23, oA 13 5 3, oA 14 1 3, oI 15 60 14 3 9, oM 16 23 12 13 0, oD 17 33 16 0 0, oL 9 17 15 0]) (.seq (.ops [oA 18 1 3, oH 19 3 18 1 3 3, oB 1 19 3]) (.seq (.ops [oA 20 0 23, oA 21 5 3, oA 22 1 3, oI 23 60 22 3 9, oM 24 23 20 21 0, oD 25 33 24 1 0, oL 9 25 23 0]) (.ops [oA 26 1 3, oH 27 3 26 1 3 3, oB 1 27 3]))))) (q56c0)
@[simp] theorem q56c1R : type_of% (run_is q56c1.eq_1) := run_is rfl
def q56l0 : QCode := .seq (.seq (.ops [oA 6 5 3, oA 7 0 23, oF 8 7 23 3, oJ 9 3 6 8 3 4]) (.cond (.tmp 9) (.skip) (.exit 0))) (q56c1)
@[simp] theorem q56l0R : type_of% (run_is q56l0.eq_1) := run_is rfl
def q56c2 : QCode := .seq (.ops [oA 28 1 3, oB 4 28 3]) (.ret)
@[simp] theorem q56c2R : type_of% (run_is q56c2.eq_1) := run_is rfl
@[simp] def q56 : QFn := ⟨29, [(.tmp 4, 3)], .seq (.ops [oG 4 0 3]) (.seq (.seq (.ops [oG 5 0 3]) (.block 0 (.loop q56l0))) (q56c2))⟩
theorem Cv56 : convF Tryz.f56 = some q56 := by kernel_rfl
abbrev Fn57 : FuncId := 57
def q57c0 : QCode := .ops [oA 10 5 3, oH 11 3 10 1 3 3, oB 5 11 3]
@[simp] theorem q57c0R : type_of% (run_is q57c0.eq_1) := run_is rfl
def q57c1 : QCode := .seq (.block 1 (.seq (.ops [oA 12 0 24, oA 13 5 3, oA 14 1 3, oI 15 60 14 3 9, oM 16 24 12 13 0, oD 17 94 16 0 0, oL 9 17 15 0]) (.seq (.ops [oA 18 1 3, oH 19 3 18 1 3 3, oB 1 19 3]) (.seq (.ops [oA 20 0 24, oA 21 5 3, oA 22 1 3, oM 23 24 20 21 0, oD 24 94 23 1 0, oL 3 24 22 0]) (.seq (.ops [oA 25 1 3, oH 26 3 25 1 3 3, oB 1 26 3]) (.seq (.ops [oA 27 0 24, oA 28 5 3, oA 29 1 3, oI 30 60 29 3 9, oM 31 24 27 28 0, oD 32 94 31 2 0, oL 9 32 30 0]) (.ops [oA 33 1 3, oH 34 3 33 1 3 3, oB 1 34 3]))))))) (q57c0)
@[simp] theorem q57c1R : type_of% (run_is q57c1.eq_1) := run_is rfl
def q57l0 : QCode := .seq (.seq (.ops [oA 6 5 3, oA 7 0 24, oF 8 7 24 3, oJ 9 3 6 8 3 4]) (.cond (.tmp 9) (.skip) (.exit 0))) (q57c1)
@[simp] theorem q57l0R : type_of% (run_is q57l0.eq_1) := run_is rfl
def q57c2 : QCode := .seq (.ops [oA 35 1 3, oB 4 35 3]) (.ret)
@[simp] theorem q57c2R : type_of% (run_is q57c2.eq_1) := run_is rfl
@[simp] def q57 : QFn := ⟨36, [(.tmp 4, 3)], .seq (.ops [oG 4 0 3]) (.seq (.seq (.ops [oG 5 0 3]) (.block 0 (.loop q57l0))) (q57c2))⟩
theorem Cv57 : convF Tryz.f57 = some q57 := by kernel_rfl
abbrev Fn58 : FuncId := 58
def q58c0 : QCode := .ops [oA 10 5 3, oH 11 3 10 1 3 3, oB 5 11 3]
@[simp] theorem q58c0R : type_of% (run_is q58c0.eq_1) := run_is rfl
def q58c1 : QCode := .seq (.block 1 (.seq (.ops [oA 12 0 25, oA 13 5 3, oA 14 1 3, oI 15 60 14 3 9, oM 16 25 12 13 0, oD 17 97 16 0 0, oL 9 17 15 0]) (.seq (.ops [oA 18 1 3, oH 19 3 18 1 3 3, oB 1 19 3]) (.seq (.ops [oA 20 0 25, oA 21 5 3, oA 22 1 3, oI 23 60 22 3 9, oM 24 25 20 21 0, oD 25 97 24 1 0, oL 9 25 23 0]) (.ops [oA 26 1 3, oH 27 3 26 1 3 3, oB 1 27 3]))))) (q58c0)
@[simp] theorem q58c1R : type_of% (run_is q58c1.eq_1) := run_is rfl
def q58l0 : QCode := .seq (.seq (.ops [oA 6 5 3, oA 7 0 25, oF 8 7 25 3, oJ 9 3 6 8 3 4]) (.cond (.tmp 9) (.skip) (.exit 0))) (q58c1)
@[simp] theorem q58l0R : type_of% (run_is q58l0.eq_1) := run_is rfl
def q58c2 : QCode := .seq (.ops [oA 28 1 3, oB 4 28 3]) (.ret)
@[simp] theorem q58c2R : type_of% (run_is q58c2.eq_1) := run_is rfl
@[simp] def q58 : QFn := ⟨29, [(.tmp 4, 3)], .seq (.ops [oG 4 0 3]) (.seq (.seq (.ops [oG 5 0 3]) (.block 0 (.loop q58l0))) (q58c2))⟩
theorem Cv58 : convF Tryz.f58 = some q58 := by kernel_rfl
abbrev Fn59 : FuncId := 59
def q59c0 : QCode := .ops [oA 10 5 3, oH 11 3 10 1 3 3, oB 5 11 3]
@[simp] theorem q59c0R : type_of% (run_is q59c0.eq_1) := run_is rfl
def q59c1 : QCode := .seq (.block 1 (.seq (.ops [oA 12 0 26, oA 13 5 3, oA 14 1 3, oI 15 60 14 3 9, oM 16 26 12 13 0, oD 17 35 16 0 0, oL 9 17 15 0]) (.seq (.ops [oA 18 1 3, oH 19 3 18 1 3 3, oB 1 19 3]) (.seq (.ops [oA 20 0 26, oA 21 5 3, oA 22 1 3, oI 23 60 22 3 9, oM 24 26 20 21 0, oD 25 35 24 1 0, oL 9 25 23 0]) (.ops [oA 26 1 3, oH 27 3 26 1 3 3, oB 1 27 3]))))) (q59c0)
@[simp] theorem q59c1R : type_of% (run_is q59c1.eq_1) := run_is rfl
def q59l0 : QCode := .seq (.seq (.ops [oA 6 5 3, oA 7 0 26, oF 8 7 26 3, oJ 9 3 6 8 3 4]) (.cond (.tmp 9) (.skip) (.exit 0))) (q59c1)
@[simp] theorem q59l0R : type_of% (run_is q59l0.eq_1) := run_is rfl
def q59c2 : QCode := .seq (.ops [oA 28 1 3, oB 4 28 3]) (.ret)
@[simp] theorem q59c2R : type_of% (run_is q59c2.eq_1) := run_is rfl
@[simp] def q59 : QFn := ⟨29, [(.tmp 4, 3)], .seq (.ops [oG 4 0 3]) (.seq (.seq (.ops [oG 5 0 3]) (.block 0 (.loop q59l0))) (q59c2))⟩
theorem Cv59 : convF Tryz.f59 = some q59 := by kernel_rfl
abbrev Fn60 : FuncId := 60
def q60c0 : QCode := .block 1 (.seq (.ops [oA 8 0 3, ⟨some 9, .binOp .rem 3 (.tmp 8) (.const (.int .i64 10)) 3, 3, none⟩, ⟨some 10, .binOp .add 3 (.const (.int .i64 48)) (.tmp 9) 3, 3, none⟩, ⟨some 11, .convert 3 5 (.tmp 10), 5, none⟩, oAA 12 22 1 0 11 22, ⟨some 13, .convert 22 9 (.tmp 12), 9, none⟩, oA 14 3 9, ⟨some 15, .binOp .add 9 (.tmp 13) (.tmp 14) 9, 9, none⟩, oB 3 15 9]) (.ops [oA 16 0 3, ⟨some 17, .binOp .quo 3 (.tmp 16) (.const (.int .i64 10)) 3, 3, none⟩, oB 0 17 3]))
@[simp] theorem q60c0R : type_of% (run_is q60c0.eq_1) := run_is rfl
def q60l0 : QCode := .seq (.seq (.ops [oA 6 0 3, oAM 7 3 6 0 3 4]) (.cond (.tmp 7) (.skip) (.exit 0))) (q60c0)
@[simp] theorem q60l0R : type_of% (run_is q60l0.eq_1) := run_is rfl
def q60c1 : QCode := .seq (.ops [oA 18 3 9, ⟨some 19, .binOp .add 9 (.const (.string { data := #[109] })) (.tmp 18) 9, 9, none⟩, oB 2 19 9]) (.ret)
@[simp] theorem q60c1R : type_of% (run_is q60c1.eq_1) := run_is rfl
def q60c2 : QCode := .seq (.ops [oT 3 9]) (.seq (.block 0 (.loop q60l0)) (q60c1))
@[simp] theorem q60c2R : type_of% (run_is q60c2.eq_1) := run_is rfl
@[simp] def q60 : QFn := ⟨20, [(.tmp 2, 9)], .seq (.ops [oT 2 9]) (.seq (.seq (.ops [oA 4 0 3, ⟨some 5, .binOp .leq 3 (.tmp 4) (.const (.int .i64 0)) 3, 4, none⟩]) (.cond (.tmp 5) (.seq (.ops [⟨some 2, .assign (.const (.string { data := #[109, 48] })), 9, none⟩]) (.ret)) (.skip))) (q60c2))⟩
theorem Cv60 : convF Tryz.f60 = some q60 := by kernel_rfl
abbrev Fn67 : FuncId := 67
def q67c0 : QCode := .ops [oA 21 9 3, oH 22 3 21 1 3 3, oB 9 22 3]
@[simp] theorem q67c0R : type_of% (run_is q67c0.eq_1) := run_is rfl
def q67c1 : QCode := .seq (.block 1 (.seq (.ops [oA 23 0 9, oA 24 9 3, oAG 25 9 23 24 5, oA 26 1 5, ⟨some 27, .binOp .eql 5 (.tmp 25) (.tmp 26) 5, 4, none⟩]) (.cond (.tmp 27) (.seq (.ops [oA 28 7 27, oA 29 0 9, oA 30 8 3, oA 31 9 3, ⟨some 32, .slice 9 (.tmp 29) (some (.tmp 30)) (some (.tmp 31)) none, 9, none⟩, oAA 33 27 1 0 32 27, oAB 34 28 33 27 27 27, oB 7 34 27]) (.ops [oA 35 9 3, oH 36 3 35 1 3 3, oB 8 36 3])) (.skip)))) (q67c0)
@[simp] theorem q67c1R : type_of% (run_is q67c1.eq_1) := run_is rfl
def q67l0 : QCode := .seq (.seq (.ops [oA 11 9 3, oA 12 0 9, oF 13 12 9 3, oJ 14 3 11 13 3 4, oA 15 14 4, oQ 16 7 27 15, oAS 17 16 27 3 15, oQ 18 2 3 15, ⟨some 19, .binOp .lss 3 (.tmp 17) (.tmp 18) 3, 4, some (15, true)⟩, oU 20 15 19 4]) (.cond (.tmp 20) (.skip) (.exit 0))) (q67c1)
@[simp] theorem q67l0R : type_of% (run_is q67l0.eq_1) := run_is rfl
def q67c2 : QCode := .seq (.ops [oA 37 7 27, oA 38 0 9, oA 39 8 3, ⟨some 40, .slice 9 (.tmp 38) (some (.tmp 39)) none none, 9, none⟩, oAA 41 27 1 0 40 27, oAB 42 37 41 27 27 27, oB 6 42 27]) (.ret)
@[simp] theorem q67c2R : type_of% (run_is q67c2.eq_1) := run_is rfl
@[simp] def q67 : QFn := ⟨43, [(.tmp 6, 27)], .seq (.ops [oZ 6 27]) (.seq (.ops [⟨some 10, .buildSlice 27 0 #[], 27, none⟩, oB 7 10 27]) (.seq (.ops [oG 8 0 3]) (.seq (.seq (.ops [oG 9 0 3]) (.block 0 (.loop q67l0))) (q67c2))))⟩
theorem Cv67 : convF Tryz.f67 = some q67 := by kernel_rfl
abbrev Fn85 : FuncId := 85
def q85c0 : QCode := .ops [oH 48 3 23 1 3 3, oA 23 48 3]
@[simp] theorem q85c0R : type_of% (run_is q85c0.eq_1) := run_is rfl
def q85c1 : QCode := .seq (.block 1 (.seq (.ops [oA 25 23 3, oB 3 25 3]) (.seq (.ops [oA 26 0 9, oA 27 3 3, oAG 28 9 26 27 5, ⟨some 29, .binOp .lss 5 (.tmp 28) (.const (.int .u8 97)) 5, 4, none⟩, oA 30 29 4, oK 31 0 9 30, oK 32 3 3 30, oAN 33 9 31 32 5 30, oAQ 34 5 33 122 5 4 30, oP 35 30 34 4, oA 36 35 4, oQ 37 0 9 36, oQ 38 3 3 36, ⟨some 39, .index 9 (.tmp 37) (.tmp 38), 5, some (36, true)⟩, ⟨some 40, .binOp .lss 5 (.tmp 39) (.const (.int .u8 48)) 5, 4, some (36, true)⟩, oQ 41 40 4 36, oK 42 0 9 41, oK 43 3 3 41, oAN 44 9 42 43 5 41, oAQ 45 5 44 57 5 4 41, ⟨some 46, .pick (.tmp 41) (.const (.bool true)) (.tmp 45), 4, some (36, true)⟩, oU 47 36 46 4]) (.cond (.tmp 47) (.seq (.ops [oE 2 4]) (.ret)) (.skip))))) (q85c0)
@[simp] theorem q85c1R : type_of% (run_is q85c1.eq_1) := run_is rfl
def q85l0 : QCode := .seq (.ops [oJ 24 3 23 22 3 4]) (.seq (.cond (.tmp 24) (.skip) (.exit 0)) (q85c1))
@[simp] theorem q85l0R : type_of% (run_is q85l0.eq_1) := run_is rfl
def q85c2 : QCode := .seq (.ops [oY 2 4]) (.ret)
@[simp] theorem q85c2R : type_of% (run_is q85c2.eq_1) := run_is rfl
def q85c3 : QCode := .seq (.seq (.ops [oA 21 0 9, oF 22 21 9 3, oAF 23 0 3]) (.block 0 (.loop q85l0))) (q85c2)
@[simp] theorem q85c3R : type_of% (run_is q85c3.eq_1) := run_is rfl
@[simp] def q85 : QFn := ⟨49, [(.tmp 2, 4)], .seq (.ops [oE 2 4]) (.seq (.seq (.ops [oA 4 0 9, ⟨some 5, .binOp .eql 9 (.tmp 4) (.const (.string { data := #[] })) 9, 4, none⟩, oA 6 5 4, oK 7 0 9 6, oAP 8 7 9 3 6, ⟨some 9, .binOp .gtr 3 (.tmp 8) (.const (.int .i64 10)) 3, 4, some (6, false)⟩, oP 10 6 9 4, oA 11 10 4, oK 12 0 9 11, ⟨some 13, .index 9 (.tmp 12) (.const (.int .i64 0)), 5, some (11, false)⟩, ⟨some 14, .binOp .lss 5 (.tmp 13) (.const (.int .u8 97)) 5, 4, some (11, false)⟩, oP 15 11 14 4, oA 16 15 4, oK 17 0 9 16, ⟨some 18, .index 9 (.tmp 17) (.const (.int .i64 0)), 5, some (16, false)⟩, oAQ 19 5 18 122 5 4 16, oP 20 16 19 4]) (.cond (.tmp 20) (.seq (.ops [oE 2 4]) (.ret)) (.skip))) (q85c3))⟩
theorem Cv85 : convF Tryz.f85 = some q85 := by kernel_rfl
abbrev Fn86 : FuncId := 86
@[simp] def q86 : QFn := ⟨11, [(.tmp 2, 4)], .seq (.ops [oE 2 4]) (.seq (.ops [oA 6 0 9, oI 7 146 6 9 168, oA 5 7 168, oS 8 5 0 167, oS 9 5 1 4, oB 3 8 167, oB 4 9 4]) (.seq (.ops [oA 10 4 4, oB 2 10 4]) (.ret)))⟩
theorem Cv86 : convF Tryz.f86 = some q86 := by kernel_rfl
abbrev Fn87 : FuncId := 87
def q87c0 : QCode := .ops [oH 17 3 9 1 3 3, oA 9 17 3]
@[simp] theorem q87c0R : type_of% (run_is q87c0.eq_1) := run_is rfl
def q87c1 : QCode := .seq (.block 1 (.seq (.ops [oM 11 23 7 9 0, oC 12 33 11 33, oW 6 33 0, oL 33 6 12 0]) (.seq (.ops [oA 13 1 115, oC 14 33 6 33, oAK 15 13 14 33 4, oR 16 4 15 4]) (.cond (.tmp 16) (.seq (.ops [oE 4 4]) (.ret)) (.skip))))) (q87c0)
@[simp] theorem q87c1R : type_of% (run_is q87c1.eq_1) := run_is rfl
def q87l0 : QCode := .seq (.ops [oJ 10 3 9 8 3 0]) (.seq (.cond (.tmp 10) (.skip) (.exit 0)) (q87c1))
@[simp] theorem q87l0R : type_of% (run_is q87l0.eq_1) := run_is rfl
def q87c2 : QCode := .seq (.ops [oY 4 4]) (.ret)
@[simp] theorem q87c2R : type_of% (run_is q87c2.eq_1) := run_is rfl
@[simp] def q87 : QFn := ⟨18, [(.tmp 4, 4)], .seq (.ops [oE 4 4]) (.seq (.seq (.ops [oA 7 0 23, oF 8 7 23 3, oAF 9 0 3]) (.block 0 (.loop q87l0))) (q87c2))⟩
theorem Cv87 : convF Tryz.f87 = some q87 := by kernel_rfl
abbrev Fn88 : FuncId := 88
@[simp] def q88 : QFn := ⟨11, [(.tmp 2, 4)], .seq (.ops [oO 1 33 0 0, oE 2 4]) (.seq (.ops [oD 3 33 1 0 0, oC 4 9 3 9, oI 5 85 4 9 4, oA 6 5 4, oAC 7 33 1 1 0 6, oAD 8 9 7 9 6, oAL 9 96 8 9 4 6, oU 10 6 9 4, oB 2 10 4]) (.ret))⟩
theorem Cv88 : convF Tryz.f88 = some q88 := by kernel_rfl
abbrev Fn89 : FuncId := 89
def q89c0 : QCode := .ops [oH 17 3 9 1 3 3, oA 9 17 3]
@[simp] theorem q89c0R : type_of% (run_is q89c0.eq_1) := run_is rfl
def q89c1 : QCode := .seq (.block 1 (.seq (.ops [oM 11 24 7 9 0, oC 12 94 11 94, oW 6 94 0, oL 94 6 12 0]) (.seq (.ops [oA 13 1 117, oC 14 94 6 94, oAK 15 13 14 94 4, oR 16 4 15 4]) (.cond (.tmp 16) (.seq (.ops [oE 4 4]) (.ret)) (.skip))))) (q89c0)
@[simp] theorem q89c1R : type_of% (run_is q89c1.eq_1) := run_is rfl
def q89l0 : QCode := .seq (.ops [oJ 10 3 9 8 3 0]) (.seq (.cond (.tmp 10) (.skip) (.exit 0)) (q89c1))
@[simp] theorem q89l0R : type_of% (run_is q89l0.eq_1) := run_is rfl
def q89c2 : QCode := .seq (.ops [oY 4 4]) (.ret)
@[simp] theorem q89c2R : type_of% (run_is q89c2.eq_1) := run_is rfl
@[simp] def q89 : QFn := ⟨18, [(.tmp 4, 4)], .seq (.ops [oE 4 4]) (.seq (.seq (.ops [oA 7 0 24, oF 8 7 24 3, oAF 9 0 3]) (.block 0 (.loop q89l0))) (q89c2))⟩
theorem Cv89 : convF Tryz.f89 = some q89 := by kernel_rfl
abbrev Fn90 : FuncId := 90
def q90c0 : QCode := .cond (.tmp 14) (.seq (.ops [oD 18 94 1 2 0, oC 19 9 18 9, oI 20 86 19 9 4, oB 2 20 4]) (.ret)) (.skip)
@[simp] theorem q90c0R : type_of% (run_is q90c0.eq_1) := run_is rfl
def q90c1 : QCode := .seq (.ops [oE 2 4]) (.ret)
@[simp] theorem q90c1R : type_of% (run_is q90c1.eq_1) := run_is rfl
def q90c2 : QCode := .seq (.seq (.ops [oD 7 94 1 1 0, oC 8 3 7 3]) (.block 0 (.seq (.ops [⟨some 10, .binOp .eql 3 (.tmp 8) (.const (.int .i64 0)) 3, 4, none⟩, oB 9 10 4]) (.cond (.tmp 9) (.seq (.ops [oD 11 94 1 2 0, oC 12 9 11 9, ⟨some 13, .binOp .eql 9 (.tmp 12) (.const (.string { data := #[] })) 9, 4, none⟩, oB 2 13 4]) (.ret)) (.seq (.seq (.ops [⟨some 15, .binOp .eql 3 (.tmp 8) (.const (.int .i64 1)) 3, 4, none⟩, oB 14 15 4]) (.cond (.tmp 14) (.skip) (.seq (.ops [⟨some 16, .binOp .eql 3 (.tmp 8) (.const (.int .i64 2)) 3, 4, none⟩, oB 14 16 4]) (.cond (.tmp 14) (.skip) (.ops [⟨some 17, .binOp .eql 3 (.tmp 8) (.const (.int .i64 3)) 3, 4, none⟩, oB 14 17 4]))))) (q90c0)))))) (q90c1)
@[simp] theorem q90c2R : type_of% (run_is q90c2.eq_1) := run_is rfl
@[simp] def q90 : QFn := ⟨21, [(.tmp 2, 4)], .seq (.ops [oO 1 94 0 0, oE 2 4]) (.seq (.seq (.ops [oD 3 94 1 0 0, oC 4 9 3 9, oI 5 85 4 9 4, oR 6 4 5 4]) (.cond (.tmp 6) (.seq (.ops [oE 2 4]) (.ret)) (.skip))) (q90c2))⟩
theorem Cv90 : convF Tryz.f90 = some q90 := by kernel_rfl
abbrev Fn91 : FuncId := 91
def q91c0 : QCode := .ops [oH 17 3 9 1 3 3, oA 9 17 3]
@[simp] theorem q91c0R : type_of% (run_is q91c0.eq_1) := run_is rfl
def q91c1 : QCode := .seq (.block 1 (.seq (.ops [oM 11 25 7 9 0, oC 12 97 11 97, oW 6 97 0, oL 97 6 12 0]) (.seq (.ops [oA 13 1 119, oC 14 97 6 97, oAK 15 13 14 97 4, oR 16 4 15 4]) (.cond (.tmp 16) (.seq (.ops [oE 4 4]) (.ret)) (.skip))))) (q91c0)
@[simp] theorem q91c1R : type_of% (run_is q91c1.eq_1) := run_is rfl
def q91l0 : QCode := .seq (.ops [oJ 10 3 9 8 3 0]) (.seq (.cond (.tmp 10) (.skip) (.exit 0)) (q91c1))
@[simp] theorem q91l0R : type_of% (run_is q91l0.eq_1) := run_is rfl
def q91c2 : QCode := .seq (.ops [oY 4 4]) (.ret)
@[simp] theorem q91c2R : type_of% (run_is q91c2.eq_1) := run_is rfl
@[simp] def q91 : QFn := ⟨18, [(.tmp 4, 4)], .seq (.ops [oE 4 4]) (.seq (.seq (.ops [oA 7 0 25, oF 8 7 25 3, oAF 9 0 3]) (.block 0 (.loop q91l0))) (q91c2))⟩
theorem Cv91 : convF Tryz.f91 = some q91 := by kernel_rfl
abbrev Fn92 : FuncId := 92
@[simp] def q92 : QFn := ⟨11, [(.tmp 2, 4)], .seq (.ops [oO 1 97 0 0, oE 2 4]) (.seq (.ops [oD 3 97 1 0 0, oC 4 9 3 9, oI 5 147 4 9 4, oA 6 5 4, oAC 7 97 1 1 0 6, oAD 8 9 7 9 6, oAL 9 148 8 9 4 6, oU 10 6 9 4, oB 2 10 4]) (.ret))⟩
theorem Cv92 : convF Tryz.f92 = some q92 := by kernel_rfl
abbrev Fn93 : FuncId := 93
def q93c0 : QCode := .ops [oH 17 3 9 1 3 3, oA 9 17 3]
@[simp] theorem q93c0R : type_of% (run_is q93c0.eq_1) := run_is rfl
def q93c1 : QCode := .seq (.block 1 (.seq (.ops [oM 11 26 7 9 0, oC 12 35 11 35, oW 6 35 0, oL 35 6 12 0]) (.seq (.ops [oA 13 1 121, oC 14 35 6 35, oAK 15 13 14 35 4, oR 16 4 15 4]) (.cond (.tmp 16) (.seq (.ops [oE 4 4]) (.ret)) (.skip))))) (q93c0)
@[simp] theorem q93c1R : type_of% (run_is q93c1.eq_1) := run_is rfl
def q93l0 : QCode := .seq (.ops [oJ 10 3 9 8 3 0]) (.seq (.cond (.tmp 10) (.skip) (.exit 0)) (q93c1))
@[simp] theorem q93l0R : type_of% (run_is q93l0.eq_1) := run_is rfl
def q93c2 : QCode := .seq (.ops [oY 4 4]) (.ret)
@[simp] theorem q93c2R : type_of% (run_is q93c2.eq_1) := run_is rfl
@[simp] def q93 : QFn := ⟨18, [(.tmp 4, 4)], .seq (.ops [oE 4 4]) (.seq (.seq (.ops [oA 7 0 26, oF 8 7 26 3, oAF 9 0 3]) (.block 0 (.loop q93l0))) (q93c2))⟩
theorem Cv93 : convF Tryz.f93 = some q93 := by kernel_rfl
abbrev Fn94 : FuncId := 94
@[simp] def q94 : QFn := ⟨11, [(.tmp 2, 4)], .seq (.ops [oO 1 35 0 0, oE 2 4]) (.seq (.ops [oD 3 35 1 0 0, oC 4 9 3 9, oI 5 85 4 9 4, oA 6 5 4, oAC 7 35 1 1 0 6, oAD 8 9 7 9 6, oAL 9 149 8 9 4 6, oU 10 6 9 4, oB 2 10 4]) (.ret))⟩
theorem Cv94 : convF Tryz.f94 = some q94 := by kernel_rfl
abbrev Fn95 : FuncId := 95
def q95c0 : QCode := .ops [oH 17 3 9 1 3 3, oA 9 17 3]
@[simp] theorem q95c0R : type_of% (run_is q95c0.eq_1) := run_is rfl
def q95c1 : QCode := .seq (.block 1 (.seq (.ops [oM 11 27 7 9 0, oC 12 9 11 9, oB 6 12 9]) (.seq (.ops [oA 13 1 54, oA 14 6 9, oAK 15 13 14 9 4, oR 16 4 15 4]) (.cond (.tmp 16) (.seq (.ops [oE 4 4]) (.ret)) (.skip))))) (q95c0)
@[simp] theorem q95c1R : type_of% (run_is q95c1.eq_1) := run_is rfl
def q95l0 : QCode := .seq (.ops [oJ 10 3 9 8 3 0]) (.seq (.cond (.tmp 10) (.skip) (.exit 0)) (q95c1))
@[simp] theorem q95l0R : type_of% (run_is q95l0.eq_1) := run_is rfl
def q95c2 : QCode := .seq (.ops [oY 4 4]) (.ret)
@[simp] theorem q95c2R : type_of% (run_is q95c2.eq_1) := run_is rfl
@[simp] def q95 : QFn := ⟨18, [(.tmp 4, 4)], .seq (.ops [oE 4 4]) (.seq (.seq (.ops [oA 7 0 27, oF 8 7 27 3, oAF 9 0 3]) (.block 0 (.loop q95l0))) (q95c2))⟩
theorem Cv95 : convF Tryz.f95 = some q95 := by kernel_rfl
abbrev Fn96 : FuncId := 96
@[simp] def q96 : QFn := ⟨9, [(.tmp 2, 4)], .seq (.ops [oE 2 4]) (.seq (.ops [oA 3 0 9, ⟨some 4, .binOp .neq 9 (.tmp 3) (.const (.string { data := #[] })) 9, 4, none⟩, oA 5 4 4, oQ 6 0 9 5, oAL 7 150 6 9 4 5, oU 8 5 7 4, oB 2 8 4]) (.ret))⟩
theorem Cv96 : convF Tryz.f96 = some q96 := by kernel_rfl
abbrev Fn97 : FuncId := 97
@[simp] def q97 : QFn := ⟨5, [(.tmp 2, 9)], .seq (.ops [oO 1 33 0 0, oT 2 9]) (.seq (.ops [oD 3 33 1 0 0, oC 4 9 3 9, oB 2 4 9]) (.ret))⟩
theorem Cv97 : convF Tryz.f97 = some q97 := by kernel_rfl
abbrev Fn98 : FuncId := 98
@[simp] def q98 : QFn := ⟨5, [(.tmp 2, 9)], .seq (.ops [oO 1 97 0 0, oT 2 9]) (.seq (.ops [oD 3 97 1 0 0, oC 4 9 3 9, oB 2 4 9]) (.ret))⟩
theorem Cv98 : convF Tryz.f98 = some q98 := by kernel_rfl
abbrev Fn99 : FuncId := 99
@[simp] def q99 : QFn := ⟨5, [(.tmp 2, 9)], .seq (.ops [oO 1 35 0 0, oT 2 9]) (.seq (.ops [oD 3 35 1 0 0, oC 4 9 3 9, oB 2 4 9]) (.ret))⟩
theorem Cv99 : convF Tryz.f99 = some q99 := by kernel_rfl
abbrev Fn100 : FuncId := 100
def q100c0 : QCode := .ops [oA 23 7 27, oA 24 1 123, oC 25 33 9 33, oAK 26 24 25 33 9, oAA 27 27 1 0 26 27, oAB 28 23 27 27 27 27, oB 7 28 27]
@[simp] theorem q100c0R : type_of% (run_is q100c0.eq_1) := run_is rfl
def q100c1 : QCode := .ops [oH 29 3 14 1 3 3, oA 14 29 3]
@[simp] theorem q100c1R : type_of% (run_is q100c1.eq_1) := run_is rfl
def q100c2 : QCode := .seq (.block 1 (.seq (.ops [oM 16 23 12 14 0, oC 17 33 16 33, oW 9 33 0, oL 33 9 17 0]) (.seq (.seq (.ops [oA 18 7 27, oA 19 1 123, oC 20 33 9 33, oAK 21 19 20 33 9, oN 22 152 18 21 27 9 4]) (.cond (.tmp 22) (.seq (.ops [oY 6 4]) (.ret)) (.skip))) (q100c0)))) (q100c1)
@[simp] theorem q100c2R : type_of% (run_is q100c2.eq_1) := run_is rfl
def q100l0 : QCode := .seq (.ops [oJ 15 3 14 13 3 0]) (.seq (.cond (.tmp 15) (.skip) (.exit 0)) (q100c2))
@[simp] theorem q100l0R : type_of% (run_is q100l0.eq_1) := run_is rfl
def q100c3 : QCode := .seq (.ops [oE 6 4]) (.ret)
@[simp] theorem q100c3R : type_of% (run_is q100c3.eq_1) := run_is rfl
@[simp] def q100 : QFn := ⟨30, [(.tmp 6, 4)], .seq (.ops [oE 6 4]) (.seq (.ops [oA 10 2 27, oI 11 151 10 27 27, oB 7 11 27]) (.seq (.seq (.ops [oA 12 0 23, oF 13 12 23 3, oAF 14 0 3]) (.block 0 (.loop q100l0))) (q100c3)))⟩
theorem Cv100 : convF Tryz.f100 = some q100 := by kernel_rfl
abbrev Fn101 : FuncId := 101
def q101c0 : QCode := .ops [oA 23 7 27, oA 24 1 95, oC 25 94 9 94, oAK 26 24 25 94 9, oAA 27 27 1 0 26 27, oAB 28 23 27 27 27 27, oB 7 28 27]
@[simp] theorem q101c0R : type_of% (run_is q101c0.eq_1) := run_is rfl
def q101c1 : QCode := .ops [oH 29 3 14 1 3 3, oA 14 29 3]
@[simp] theorem q101c1R : type_of% (run_is q101c1.eq_1) := run_is rfl
def q101c2 : QCode := .seq (.block 1 (.seq (.ops [oM 16 24 12 14 0, oC 17 94 16 94, oW 9 94 0, oL 94 9 17 0]) (.seq (.seq (.ops [oA 18 7 27, oA 19 1 95, oC 20 94 9 94, oAK 21 19 20 94 9, oN 22 152 18 21 27 9 4]) (.cond (.tmp 22) (.seq (.ops [oY 6 4]) (.ret)) (.skip))) (q101c0)))) (q101c1)
@[simp] theorem q101c2R : type_of% (run_is q101c2.eq_1) := run_is rfl
def q101l0 : QCode := .seq (.ops [oJ 15 3 14 13 3 0]) (.seq (.cond (.tmp 15) (.skip) (.exit 0)) (q101c2))
@[simp] theorem q101l0R : type_of% (run_is q101l0.eq_1) := run_is rfl
def q101c3 : QCode := .seq (.ops [oE 6 4]) (.ret)
@[simp] theorem q101c3R : type_of% (run_is q101c3.eq_1) := run_is rfl
@[simp] def q101 : QFn := ⟨30, [(.tmp 6, 4)], .seq (.ops [oE 6 4]) (.seq (.ops [oA 10 2 27, oI 11 151 10 27 27, oB 7 11 27]) (.seq (.seq (.ops [oA 12 0 24, oF 13 12 24 3, oAF 14 0 3]) (.block 0 (.loop q101l0))) (q101c3)))⟩
theorem Cv101 : convF Tryz.f101 = some q101 := by kernel_rfl
abbrev Fn102 : FuncId := 102
@[simp] def q102 : QFn := ⟨5, [(.tmp 2, 9)], .seq (.ops [oO 1 94 0 0, oT 2 9]) (.seq (.ops [oD 3 94 1 0 0, oC 4 9 3 9, oB 2 4 9]) (.ret))⟩
theorem Cv102 : convF Tryz.f102 = some q102 := by kernel_rfl
abbrev Fn103 : FuncId := 103
def q103c0 : QCode := .ops [oA 23 7 27, oA 24 1 124, oC 25 97 9 97, oAK 26 24 25 97 9, oAA 27 27 1 0 26 27, oAB 28 23 27 27 27 27, oB 7 28 27]
@[simp] theorem q103c0R : type_of% (run_is q103c0.eq_1) := run_is rfl
def q103c1 : QCode := .ops [oH 29 3 14 1 3 3, oA 14 29 3]
@[simp] theorem q103c1R : type_of% (run_is q103c1.eq_1) := run_is rfl
def q103c2 : QCode := .seq (.block 1 (.seq (.ops [oM 16 25 12 14 0, oC 17 97 16 97, oW 9 97 0, oL 97 9 17 0]) (.seq (.seq (.ops [oA 18 7 27, oA 19 1 124, oC 20 97 9 97, oAK 21 19 20 97 9, oN 22 152 18 21 27 9 4]) (.cond (.tmp 22) (.seq (.ops [oY 6 4]) (.ret)) (.skip))) (q103c0)))) (q103c1)
@[simp] theorem q103c2R : type_of% (run_is q103c2.eq_1) := run_is rfl
def q103l0 : QCode := .seq (.ops [oJ 15 3 14 13 3 0]) (.seq (.cond (.tmp 15) (.skip) (.exit 0)) (q103c2))
@[simp] theorem q103l0R : type_of% (run_is q103l0.eq_1) := run_is rfl
def q103c3 : QCode := .seq (.ops [oE 6 4]) (.ret)
@[simp] theorem q103c3R : type_of% (run_is q103c3.eq_1) := run_is rfl
@[simp] def q103 : QFn := ⟨30, [(.tmp 6, 4)], .seq (.ops [oE 6 4]) (.seq (.ops [oA 10 2 27, oI 11 151 10 27 27, oB 7 11 27]) (.seq (.seq (.ops [oA 12 0 25, oF 13 12 25 3, oAF 14 0 3]) (.block 0 (.loop q103l0))) (q103c3)))⟩
theorem Cv103 : convF Tryz.f103 = some q103 := by kernel_rfl
abbrev Fn104 : FuncId := 104
def q104c0 : QCode := .ops [oA 23 7 27, oA 24 1 125, oC 25 35 9 35, oAK 26 24 25 35 9, oAA 27 27 1 0 26 27, oAB 28 23 27 27 27 27, oB 7 28 27]
@[simp] theorem q104c0R : type_of% (run_is q104c0.eq_1) := run_is rfl
def q104c1 : QCode := .ops [oH 29 3 14 1 3 3, oA 14 29 3]
@[simp] theorem q104c1R : type_of% (run_is q104c1.eq_1) := run_is rfl
def q104c2 : QCode := .seq (.block 1 (.seq (.ops [oM 16 26 12 14 0, oC 17 35 16 35, oW 9 35 0, oL 35 9 17 0]) (.seq (.seq (.ops [oA 18 7 27, oA 19 1 125, oC 20 35 9 35, oAK 21 19 20 35 9, oN 22 152 18 21 27 9 4]) (.cond (.tmp 22) (.seq (.ops [oY 6 4]) (.ret)) (.skip))) (q104c0)))) (q104c1)
@[simp] theorem q104c2R : type_of% (run_is q104c2.eq_1) := run_is rfl
def q104l0 : QCode := .seq (.ops [oJ 15 3 14 13 3 0]) (.seq (.cond (.tmp 15) (.skip) (.exit 0)) (q104c2))
@[simp] theorem q104l0R : type_of% (run_is q104l0.eq_1) := run_is rfl
def q104c3 : QCode := .seq (.ops [oE 6 4]) (.ret)
@[simp] theorem q104c3R : type_of% (run_is q104c3.eq_1) := run_is rfl
@[simp] def q104 : QFn := ⟨30, [(.tmp 6, 4)], .seq (.ops [oE 6 4]) (.seq (.ops [oA 10 2 27, oI 11 151 10 27 27, oB 7 11 27]) (.seq (.seq (.ops [oA 12 0 26, oF 13 12 26 3, oAF 14 0 3]) (.block 0 (.loop q104l0))) (q104c3)))⟩
theorem Cv104 : convF Tryz.f104 = some q104 := by kernel_rfl
abbrev Fn105 : FuncId := 105
@[simp] def q105 : QFn := ⟨13, [(.tmp 2, 23)], .seq (.ops [oO 1 29 0 0, oZ 2 23]) (.seq (.ops [oD 3 29 1 0 0, oC 4 9 3 9, ⟨some 5, .build 33 #[(0, .const (.string { data := #[110, 97, 109, 101] })), (1, .tmp 4)], 33, none⟩, oD 6 29 1 1 0, oC 7 9 6 9, ⟨some 8, .build 33 #[(0, .const (.string { data := #[118, 101, 114, 115, 105, 111, 110] })), (1, .tmp 7)], 33, none⟩, ⟨some 9, .buildSlice 23 2 #[(0, .tmp 5), (1, .tmp 8)], 23, none⟩, oD 10 29 1 2 0, oC 11 23 10 23, oAB 12 9 11 23 23 23, oB 2 12 23]) (.ret))⟩
theorem Cv105 : convF Tryz.f105 = some q105 := by kernel_rfl
abbrev Fn106 : FuncId := 106
def q106c0 : QCode := .seq (.ops [oA 34 8 9, oB 4 34 9, oG 5 0 3]) (.ret)
@[simp] theorem q106c0R : type_of% (run_is q106c0.eq_1) := run_is rfl
def q106c1 : QCode := .seq (.ops [oA 23 0 23, ⟨some 24, .build 172 #[(0, .tmp 23)], 172, none⟩, oW 7 172 0, oL 172 7 24 0]) (.seq (.ops [oA 26 1 9, oN 27 155 7 26 172 9 173, oA 25 27 173, oS 28 25 0 9, oS 29 25 1 88, oB 8 28 9, oB 9 29 88]) (.seq (.seq (.ops [oA 30 9 88, ⟨some 31, .binOp .neq 88 (.tmp 30) (.const .nilIface) 88, 4, none⟩]) (.cond (.tmp 31) (.seq (.ops [oA 32 9 88, oI 33 156 32 88 3, oT 4 9, oB 5 33 3]) (.ret)) (.skip))) (q106c0)))
@[simp] theorem q106c1R : type_of% (run_is q106c1.eq_1) := run_is rfl
@[simp] def q106 : QFn := ⟨35, [(.tmp 4, 9), (.tmp 5, 3)], .seq (.ops [oT 4 9, oG 5 0 3]) (.seq (.ops [⟨some 6, .assign (.func 153), 115, none⟩]) (.seq (.seq (.ops [oA 10 0 23, oF 11 10 23 3, oAM 12 3 11 8 3 4, oA 13 12 4, oK 14 0 23 13, oK 15 6 115 13, ⟨some 16, .call { callee := .value (.func 154), args := #[.tmp 14, .tmp 15], argTypes := #[23, 115] }, 4, some (13, false)⟩, oP 17 13 16 4, oA 18 17 4, oK 19 1 9 18, oAO 20 96 19 9 4 18, ⟨some 21, .unOp .not 4 (.tmp 20), 4, some (18, false)⟩, oP 22 18 21 4]) (.cond (.tmp 22) (.seq (.ops [oT 4 9, oG 5 1 3]) (.ret)) (.skip))) (q106c1)))⟩
theorem Cv106 : convF Tryz.f106 = some q106 := by kernel_rfl
abbrev Fn107 : FuncId := 107
def q107c0 : QCode := .ops [oA 8 3 3, oH 9 3 8 1 3 3, oB 3 9 3]
@[simp] theorem q107c0R : type_of% (run_is q107c0.eq_1) := run_is rfl
def q107c1 : QCode := .seq (.block 1 (.seq (.ops [oA 10 0 9, oA 11 3 3, oAG 12 9 10 11 5, oI 13 157 12 5 4, oR 14 4 13 4]) (.cond (.tmp 14) (.seq (.ops [oE 2 4]) (.ret)) (.skip)))) (q107c0)
@[simp] theorem q107c1R : type_of% (run_is q107c1.eq_1) := run_is rfl
def q107l0 : QCode := .seq (.seq (.ops [oA 4 3 3, oA 5 0 9, oF 6 5 9 3, oJ 7 3 4 6 3 4]) (.cond (.tmp 7) (.skip) (.exit 0))) (q107c1)
@[simp] theorem q107l0R : type_of% (run_is q107l0.eq_1) := run_is rfl
def q107c2 : QCode := .seq (.ops [oA 15 0 9, oF 16 15 9 3, oAU 17 158 16 1 10 3 3 3 4, oA 18 17 4, oQ 19 0 9 18, ⟨some 20, .binOp .neq 9 (.tmp 19) (.const (.string { data := #[46] })) 9, 4, some (18, true)⟩, oU 21 18 20 4, oA 22 21 4, oQ 23 0 9 22, ⟨some 24, .binOp .neq 9 (.tmp 23) (.const (.string { data := #[46, 46] })) 9, 4, some (22, true)⟩, oU 25 22 24 4, oB 2 25 4]) (.ret)
@[simp] theorem q107c2R : type_of% (run_is q107c2.eq_1) := run_is rfl
@[simp] def q107 : QFn := ⟨26, [(.tmp 2, 4)], .seq (.ops [oE 2 4]) (.seq (.seq (.ops [oG 3 0 3]) (.block 0 (.loop q107l0))) (q107c2))⟩
theorem Cv107 : convF Tryz.f107 = some q107 := by kernel_rfl
abbrev Fn108 : FuncId := 108
def q108c0 : QCode := .ops [oA 8 3 3, oH 9 3 8 1 3 3, oB 3 9 3]
@[simp] theorem q108c0R : type_of% (run_is q108c0.eq_1) := run_is rfl
def q108c1 : QCode := .seq (.block 1 (.seq (.ops [oA 10 0 9, oA 11 3 3, oAG 12 9 10 11 5, ⟨some 13, .binOp .geq 5 (.tmp 12) (.const (.int .u8 48)) 5, 4, none⟩, oA 14 13 4, oQ 15 0 9 14, oQ 16 3 3 14, ⟨some 17, .index 9 (.tmp 15) (.tmp 16), 5, some (14, true)⟩, oAR 18 5 17 57 5 4 14, oU 19 14 18 4, oA 20 19 4, oK 21 0 9 20, oK 22 3 3 20, oAN 23 9 21 22 5 20, ⟨some 24, .binOp .geq 5 (.tmp 23) (.const (.int .u8 97)) 5, 4, some (20, false)⟩, oK 25 24 4 20, oQ 26 0 9 25, oQ 27 3 3 25, ⟨some 28, .index 9 (.tmp 26) (.tmp 27), 5, some (25, true)⟩, oAR 29 5 28 102 5 4 25, ⟨some 30, .pick (.tmp 25) (.tmp 29) (.const (.bool false)), 4, some (20, false)⟩, oP 31 20 30 4, oR 32 4 31 4]) (.cond (.tmp 32) (.seq (.ops [oE 2 4]) (.ret)) (.skip)))) (q108c0)
@[simp] theorem q108c1R : type_of% (run_is q108c1.eq_1) := run_is rfl
def q108l0 : QCode := .seq (.seq (.ops [oA 4 3 3, oA 5 0 9, oF 6 5 9 3, oJ 7 3 4 6 3 4]) (.cond (.tmp 7) (.skip) (.exit 0))) (q108c1)
@[simp] theorem q108l0R : type_of% (run_is q108l0.eq_1) := run_is rfl
def q108c2 : QCode := .seq (.ops [oA 33 0 9, oF 34 33 9 3, ⟨some 35, .binOp .eql 3 (.tmp 34) (.const (.int .i64 16)) 3, 4, none⟩, oB 2 35 4]) (.ret)
@[simp] theorem q108c2R : type_of% (run_is q108c2.eq_1) := run_is rfl
@[simp] def q108 : QFn := ⟨36, [(.tmp 2, 4)], .seq (.ops [oE 2 4]) (.seq (.seq (.ops [oG 3 0 3]) (.block 0 (.loop q108l0))) (q108c2))⟩
theorem Cv108 : convF Tryz.f108 = some q108 := by kernel_rfl
abbrev Fn109 : FuncId := 109
def q109c0 : QCode := .ops [oA 9 3 3, oH 10 3 9 1 3 3, oB 3 10 3]
@[simp] theorem q109c0R : type_of% (run_is q109c0.eq_1) := run_is rfl
def q109c1 : QCode := .seq (.block 1 (.seq (.ops [oA 11 0 9, oA 12 3 3, oAG 13 9 11 12 5, ⟨some 14, .binOp .geq 5 (.tmp 13) (.const (.int .u8 97)) 5, 4, none⟩, oA 15 14 4, oQ 16 0 9 15, oQ 17 3 3 15, ⟨some 18, .index 9 (.tmp 16) (.tmp 17), 5, some (15, true)⟩, oAR 19 5 18 122 5 4 15, oU 20 15 19 4, oB 4 20 4]) (.seq (.ops [oA 21 4 4, oR 22 4 21 4, oA 23 22 4, oQ 24 3 3 23, ⟨some 25, .binOp .eql 3 (.tmp 24) (.const (.int .i64 0)) 3, 4, some (23, true)⟩, oQ 26 25 4 23, oK 27 0 9 26, oK 28 3 3 26, oAN 29 9 27 28 5 26, ⟨some 30, .binOp .lss 5 (.tmp 29) (.const (.int .u8 48)) 5, 4, some (26, false)⟩, ⟨some 31, .pick (.tmp 26) (.const (.bool true)) (.tmp 30), 4, some (23, true)⟩, oQ 32 31 4 23, oK 33 0 9 32, oK 34 3 3 32, oAN 35 9 33 34 5 32, oAQ 36 5 35 57 5 4 32, ⟨some 37, .pick (.tmp 32) (.const (.bool true)) (.tmp 36), 4, some (23, true)⟩, oU 38 23 37 4]) (.cond (.tmp 38) (.seq (.ops [oE 2 4]) (.ret)) (.skip))))) (q109c0)
@[simp] theorem q109c1R : type_of% (run_is q109c1.eq_1) := run_is rfl
def q109l0 : QCode := .seq (.seq (.ops [oA 5 3 3, oA 6 0 9, oF 7 6 9 3, oJ 8 3 5 7 3 4]) (.cond (.tmp 8) (.skip) (.exit 0))) (q109c1)
@[simp] theorem q109l0R : type_of% (run_is q109l0.eq_1) := run_is rfl
def q109c2 : QCode := .seq (.ops [oA 39 0 9, oF 40 39 9 3, oAU 41 158 40 1 10 3 3 3 4, oB 2 41 4]) (.ret)
@[simp] theorem q109c2R : type_of% (run_is q109c2.eq_1) := run_is rfl
@[simp] def q109 : QFn := ⟨42, [(.tmp 2, 4)], .seq (.ops [oE 2 4]) (.seq (.seq (.ops [oG 3 0 3]) (.block 0 (.loop q109l0))) (q109c2))⟩
theorem Cv109 : convF Tryz.f109 = some q109 := by kernel_rfl
abbrev Fn110 : FuncId := 110
def q110c0 : QCode := .ops [oA 14 4 3, oH 15 3 14 1 3 3, oB 4 15 3]
@[simp] theorem q110c0R : type_of% (run_is q110c0.eq_1) := run_is rfl
def q110c1 : QCode := .seq (.block 1 (.seq (.ops [oA 16 3 27, oA 17 4 3, oM 18 27 16 17 0, oC 19 9 18 9, oI 20 159 19 9 4, oR 21 4 20 4]) (.cond (.tmp 21) (.seq (.ops [oE 2 4]) (.ret)) (.skip)))) (q110c0)
@[simp] theorem q110c1R : type_of% (run_is q110c1.eq_1) := run_is rfl
def q110l0 : QCode := .seq (.seq (.ops [oA 10 4 3, oA 11 3 27, oF 12 11 27 3, oJ 13 3 10 12 3 4]) (.cond (.tmp 13) (.skip) (.exit 0))) (q110c1)
@[simp] theorem q110l0R : type_of% (run_is q110l0.eq_1) := run_is rfl
def q110c2 : QCode := .seq (.ops [oA 22 3 27, oF 23 22 27 3, ⟨some 24, .binOp .leq 3 (.tmp 23) (.const (.int .i64 5)) 3, 4, none⟩, oA 25 24 4, oQ 26 0 9 25, oAS 27 26 9 3 25, ⟨some 28, .binOp .leq 3 (.tmp 27) (.const (.int .i64 40)) 3, 4, some (25, true)⟩, oU 29 25 28 4, oB 2 29 4]) (.ret)
@[simp] theorem q110c2R : type_of% (run_is q110c2.eq_1) := run_is rfl
@[simp] def q110 : QFn := ⟨30, [(.tmp 2, 4)], .seq (.ops [oE 2 4]) (.seq (.ops [oA 5 0 9, oA 6 0 9, oF 7 6 9 3, oH 8 3 7 1 3 3, ⟨some 9, .call { callee := .value (.func 67), args := #[.tmp 5, .const (.int .u8 47), .tmp 8], argTypes := #[9, 5, 3] }, 27, none⟩, oB 3 9 27]) (.seq (.seq (.ops [oG 4 0 3]) (.block 0 (.loop q110l0))) (q110c2)))⟩
theorem Cv110 : convF Tryz.f110 = some q110 := by kernel_rfl
abbrev Fn111 : FuncId := 111
def q111c0 : QCode := .ops [oA 8 3 3, oH 9 3 8 1 3 3, oB 3 9 3]
@[simp] theorem q111c0R : type_of% (run_is q111c0.eq_1) := run_is rfl
def q111c1 : QCode := .seq (.block 1 (.seq (.ops [oA 10 0 9, oA 11 3 3, oAG 12 9 10 11 5, ⟨some 13, .convert 5 3 (.tmp 12), 3, none⟩, oAU 14 158 13 32 126 3 3 3 4, oR 15 4 14 4]) (.cond (.tmp 15) (.seq (.ops [oE 2 4]) (.ret)) (.skip)))) (q111c0)
@[simp] theorem q111c1R : type_of% (run_is q111c1.eq_1) := run_is rfl
def q111l0 : QCode := .seq (.seq (.ops [oA 4 3 3, oA 5 0 9, oF 6 5 9 3, oJ 7 3 4 6 3 4]) (.cond (.tmp 7) (.skip) (.exit 0))) (q111c1)
@[simp] theorem q111l0R : type_of% (run_is q111l0.eq_1) := run_is rfl
def q111c2 : QCode := .seq (.ops [oA 16 0 9, oF 17 16 9 3, oAU 18 158 17 1 80 3 3 3 4, oB 2 18 4]) (.ret)
@[simp] theorem q111c2R : type_of% (run_is q111c2.eq_1) := run_is rfl
@[simp] def q111 : QFn := ⟨19, [(.tmp 2, 4)], .seq (.ops [oE 2 4]) (.seq (.seq (.ops [oG 3 0 3]) (.block 0 (.loop q111l0))) (q111c2))⟩
theorem Cv111 : convF Tryz.f111 = some q111 := by kernel_rfl
abbrev Fn112 : FuncId := 112
@[simp] def q112 : QFn := ⟨11, [(.tmp 2, 4)], .seq (.ops [oE 2 4]) (.seq (.ops [oA 6 0 9, oI 7 160 6 9 178, oA 5 7 178, oS 8 5 0 166, oS 9 5 1 4, oB 3 8 166, oB 4 9 4]) (.seq (.ops [oA 10 4 4, oB 2 10 4]) (.ret)))⟩
theorem Cv112 : convF Tryz.f112 = some q112 := by kernel_rfl
abbrev Fn113 : FuncId := 113
def q113c0 : QCode := .ops [oA 8 3 3, oH 9 3 8 1 3 3, oB 3 9 3]
@[simp] theorem q113c0R : type_of% (run_is q113c0.eq_1) := run_is rfl
def q113c1 : QCode := .seq (.block 1 (.seq (.ops [oA 10 0 23, oA 11 3 3, oM 12 23 10 11 0, oD 13 33 12 0 0, oC 14 9 13 9, oI 15 109 14 9 4, oR 16 4 15 4, oA 17 16 4, oK 18 0 23 17, oK 19 3 3 17, ⟨some 20, .indexAddr 23 (.tmp 18) (.tmp 19), 0, some (17, false)⟩, oAJ 21 33 20 1 0 17, oAI 22 9 21 9 17, oAO 23 111 22 9 4 17, ⟨some 24, .unOp .not 4 (.tmp 23), 4, some (17, false)⟩, oP 25 17 24 4]) (.cond (.tmp 25) (.seq (.ops [oE 2 4]) (.ret)) (.skip)))) (q113c0)
@[simp] theorem q113c1R : type_of% (run_is q113c1.eq_1) := run_is rfl
def q113l0 : QCode := .seq (.seq (.ops [oA 4 3 3, oA 5 0 23, oF 6 5 23 3, oJ 7 3 4 6 3 4]) (.cond (.tmp 7) (.skip) (.exit 0))) (q113c1)
@[simp] theorem q113l0R : type_of% (run_is q113l0.eq_1) := run_is rfl
def q113c2 : QCode := .seq (.ops [oA 26 0 23, oF 27 26 23 3, ⟨some 28, .binOp .leq 3 (.tmp 27) (.const (.int .i64 8)) 3, 4, none⟩, oB 2 28 4]) (.ret)
@[simp] theorem q113c2R : type_of% (run_is q113c2.eq_1) := run_is rfl
@[simp] def q113 : QFn := ⟨29, [(.tmp 2, 4)], .seq (.ops [oE 2 4]) (.seq (.seq (.ops [oG 3 0 3]) (.block 0 (.loop q113l0))) (q113c2))⟩
theorem Cv113 : convF Tryz.f113 = some q113 := by kernel_rfl
abbrev Fn114 : FuncId := 114
def q114c0 : QCode := .ops [oA 8 3 3, oH 9 3 8 1 3 3, oB 3 9 3]
@[simp] theorem q114c0R : type_of% (run_is q114c0.eq_1) := run_is rfl
def q114c1 : QCode := .seq (.block 1 (.seq (.ops [oA 10 0 24, oA 11 3 3, oM 12 24 10 11 0, oC 13 94 12 94, oI 14 161 13 94 4, oR 15 4 14 4]) (.cond (.tmp 15) (.seq (.ops [oE 2 4]) (.ret)) (.skip)))) (q114c0)
@[simp] theorem q114c1R : type_of% (run_is q114c1.eq_1) := run_is rfl
def q114l0 : QCode := .seq (.seq (.ops [oA 4 3 3, oA 5 0 24, oF 6 5 24 3, oJ 7 3 4 6 3 4]) (.cond (.tmp 7) (.skip) (.exit 0))) (q114c1)
@[simp] theorem q114l0R : type_of% (run_is q114l0.eq_1) := run_is rfl
def q114c2 : QCode := .seq (.ops [oA 16 0 24, oF 17 16 24 3, ⟨some 18, .binOp .leq 3 (.tmp 17) (.const (.int .i64 6)) 3, 4, none⟩, oB 2 18 4]) (.ret)
@[simp] theorem q114c2R : type_of% (run_is q114c2.eq_1) := run_is rfl
@[simp] def q114 : QFn := ⟨19, [(.tmp 2, 4)], .seq (.ops [oE 2 4]) (.seq (.seq (.ops [oG 3 0 3]) (.block 0 (.loop q114l0))) (q114c2))⟩
theorem Cv114 : convF Tryz.f114 = some q114 := by kernel_rfl
abbrev Fn115 : FuncId := 115
def q115c0 : QCode := .ops [oA 14 4 3, oH 15 3 14 1 3 3, oB 4 15 3]
@[simp] theorem q115c0R : type_of% (run_is q115c0.eq_1) := run_is rfl
def q115c1 : QCode := .seq (.block 3 (.seq (.draw [] [⟨some 16, .move (.tmp 0), 27, none⟩, ⟨some 17, .move (.tmp 4), 3, none⟩, ⟨some 18, .indexAddr 27 (.tmp 16) (.tmp 17), 0, none⟩, ⟨some 19, .load 9 (.tmp 18), 9, none⟩, ⟨some 20, .move (.tmp 0), 27, none⟩, ⟨some 21, .move (.tmp 3), 3, none⟩, ⟨some 22, .indexAddr 27 (.tmp 20) (.tmp 21), 0, none⟩, ⟨some 23, .load 9 (.tmp 22), 9, none⟩] [⟨some 24, .binOp .eql 9 (.tmp 19) (.tmp 23) 9, 4, none⟩]) (.cond (.tmp 24) (.seq (.ops [oY 2 4]) (.ret)) (.skip)))) (q115c0)
@[simp] theorem q115c1R : type_of% (run_is q115c1.eq_1) := run_is rfl
def q115l0 : QCode := .seq (.seq (.ops [oA 11 4 3, oA 12 3 3, oJ 13 3 11 12 3 4]) (.cond (.tmp 13) (.skip) (.exit 2))) (q115c1)
@[simp] theorem q115l0R : type_of% (run_is q115l0.eq_1) := run_is rfl
def q115c2 : QCode := .ops [oA 9 3 3, oH 10 3 9 1 3 3, oB 3 10 3]
@[simp] theorem q115c2R : type_of% (run_is q115c2.eq_1) := run_is rfl
def q115c3 : QCode := .seq (.block 1 (.seq (.ops [oG 4 0 3]) (.block 2 (.loop q115l0)))) (q115c2)
@[simp] theorem q115c3R : type_of% (run_is q115c3.eq_1) := run_is rfl
def q115l1 : QCode := .seq (.seq (.ops [oA 5 3 3, oA 6 0 27, oF 7 6 27 3, oJ 8 3 5 7 3 4]) (.cond (.tmp 8) (.skip) (.exit 0))) (q115c3)
@[simp] theorem q115l1R : type_of% (run_is q115l1.eq_1) := run_is rfl
def q115c4 : QCode := .seq (.ops [oE 2 4]) (.ret)
@[simp] theorem q115c4R : type_of% (run_is q115c4.eq_1) := run_is rfl
@[simp] def q115 : QFn := ⟨25, [(.tmp 2, 4)], .seq (.ops [oE 2 4]) (.seq (.seq (.ops [oG 3 0 3]) (.block 0 (.loop q115l1))) (q115c4))⟩
theorem Cv115 : convF Tryz.f115 = some q115 := by kernel_rfl
abbrev Fn116 : FuncId := 116
def q116c0 : QCode := .ops [oA 10 5 3, oH 11 3 10 1 3 3, oB 5 11 3]
@[simp] theorem q116c0R : type_of% (run_is q116c0.eq_1) := run_is rfl
def q116c1 : QCode := .seq (.block 1 (.seq (.ops [oA 12 0 9, oA 13 5 3, oAG 14 9 12 13 5, ⟨some 15, .binOp .eql 5 (.tmp 14) (.const (.int .u8 125)) 5, 4, none⟩]) (.cond (.tmp 15) (.seq (.seq (.ice [0, 0, 0]) (.draw [] [⟨some 16, .move (.tmp 0), 9, none⟩, ⟨some 17, .move (.tmp 5), 3, none⟩, ⟨some 18, .slice 9 (.tmp 16) (some (.const (.int .i64 2))) (some (.tmp 17)) none, 9, none⟩, ⟨some 19, .move (.tmp 0), 9, none⟩, ⟨some 20, .move (.tmp 5), 3, none⟩, ⟨some 23, .move (.tmp 0), 9, none⟩, ⟨some 24, .move (.tmp 5), 3, none⟩, ⟨some 25, .slice 9 (.tmp 23) (some (.const (.int .i64 2))) (some (.tmp 24)) none, 9, none⟩, ⟨some 21, .binOp .add 3 (.tmp 20) (.const (.int .i64 1)) 3, 3, none⟩, ⟨some 22, .slice 9 (.tmp 19) (some (.tmp 21)) none none, 9, none⟩, ⟨some 26, .call { callee := .value (.func 109), args := #[.tmp 25], argTypes := #[9] }, 4, none⟩, ⟨some 2, .assign (.tmp 18), 9, none⟩] [⟨some 3, .assign (.tmp 22), 9, none⟩, ⟨some 4, .assign (.tmp 26), 4, none⟩])) (.ret)) (.skip)))) (q116c0)
@[simp] theorem q116c1R : type_of% (run_is q116c1.eq_1) := run_is rfl
def q116l0 : QCode := .seq (.seq (.ops [oA 6 5 3, oA 7 0 9, oF 8 7 9 3, oJ 9 3 6 8 3 4]) (.cond (.tmp 9) (.skip) (.exit 0))) (q116c1)
@[simp] theorem q116l0R : type_of% (run_is q116l0.eq_1) := run_is rfl
def q116c2 : QCode := .seq (.ops [oT 2 9, oT 3 9, oE 4 4]) (.ret)
@[simp] theorem q116c2R : type_of% (run_is q116c2.eq_1) := run_is rfl
@[simp] def q116 : QFn := ⟨27, [(.tmp 2, 9), (.tmp 3, 9), (.tmp 4, 4)], .seq (.ops [oT 2 9, oT 3 9, oE 4 4]) (.seq (.seq (.ops [oG 5 2 3]) (.block 0 (.loop q116l0))) (q116c2))⟩
theorem Cv116 : convF Tryz.f116 = some q116 := by kernel_rfl
abbrev Fn117 : FuncId := 117
def q117c0 : QCode := .ops [oA 10 5 3, oH 11 3 10 1 3 3, oB 5 11 3]
@[simp] theorem q117c0R : type_of% (run_is q117c0.eq_1) := run_is rfl
def q117c1 : QCode := .seq (.block 1 (.seq (.ops [oA 12 0 23, oA 13 5 3, oM 14 23 12 13 0, oD 15 33 14 0 0, oC 16 9 15 9, oA 17 1 9, ⟨some 18, .binOp .eql 9 (.tmp 16) (.tmp 17) 9, 4, none⟩]) (.cond (.tmp 18) (.seq (.ops [oA 19 5 3, oB 4 19 3]) (.ret)) (.skip)))) (q117c0)
@[simp] theorem q117c1R : type_of% (run_is q117c1.eq_1) := run_is rfl
def q117l0 : QCode := .seq (.seq (.ops [oA 6 5 3, oA 7 0 23, oF 8 7 23 3, oJ 9 3 6 8 3 4]) (.cond (.tmp 9) (.skip) (.exit 0))) (q117c1)
@[simp] theorem q117l0R : type_of% (run_is q117l0.eq_1) := run_is rfl
def q117c2 : QCode := .seq (.ops [oX 4 3]) (.ret)
@[simp] theorem q117c2R : type_of% (run_is q117c2.eq_1) := run_is rfl
@[simp] def q117 : QFn := ⟨20, [(.tmp 4, 3)], .seq (.ops [oG 4 0 3]) (.seq (.seq (.ops [oG 5 0 3]) (.block 0 (.loop q117l0))) (q117c2))⟩
theorem Cv117 : convF Tryz.f117 = some q117 := by kernel_rfl
abbrev Fn118 : FuncId := 118
def q118c0 : QCode := .seq (.ops [oA 19 1 3, oB 4 19 3]) (.ret)
@[simp] theorem q118c0R : type_of% (run_is q118c0.eq_1) := run_is rfl
def q118c1 : QCode := .seq (.ops [oA 12 1 3, oD 13 138 2 1 0, oC 14 9 13 9, oF 15 14 9 3, oAH 16 3 12 15 3 3, oB 1 16 3]) (.seq (.seq (.ops [oA 17 1 3, oV 18 3 17 0 3 4]) (.cond (.tmp 18) (.seq (.ops [oX 4 3]) (.ret)) (.skip))) (q118c0))
@[simp] theorem q118c1R : type_of% (run_is q118c1.eq_1) := run_is rfl
@[simp] def q118 : QFn := ⟨20, [(.tmp 4, 3)], .seq (.ops [oO 2 138 0 0, oG 4 0 3]) (.seq (.ops [oA 5 1 3, oD 6 138 2 0 0, oC 7 9 6 9, oF 8 7 9 3, oAH 9 3 5 8 3 3, oB 1 9 3]) (.seq (.seq (.ops [oA 10 1 3, oV 11 3 10 0 3 4]) (.cond (.tmp 11) (.seq (.ops [oX 4 3]) (.ret)) (.skip))) (q118c1)))⟩
theorem Cv118 : convF Tryz.f118 = some q118 := by kernel_rfl
abbrev Fn119 : FuncId := 119
def q119c0 : QCode := .seq (.ops [oA 19 1 3, oB 4 19 3]) (.ret)
@[simp] theorem q119c0R : type_of% (run_is q119c0.eq_1) := run_is rfl
def q119c1 : QCode := .seq (.ops [oA 12 1 3, oD 13 140 2 2 0, oC 14 9 13 9, oF 15 14 9 3, oAH 16 3 12 15 3 3, oB 1 16 3]) (.seq (.seq (.ops [oA 17 1 3, oV 18 3 17 0 3 4]) (.cond (.tmp 18) (.seq (.ops [oX 4 3]) (.ret)) (.skip))) (q119c0))
@[simp] theorem q119c1R : type_of% (run_is q119c1.eq_1) := run_is rfl
@[simp] def q119 : QFn := ⟨20, [(.tmp 4, 3)], .seq (.ops [oO 2 140 0 0, oG 4 0 3]) (.seq (.ops [oA 5 1 3, oD 6 140 2 0 0, oC 7 9 6 9, oF 8 7 9 3, oAH 9 3 5 8 3 3, oB 1 9 3]) (.seq (.seq (.ops [oA 10 1 3, oV 11 3 10 0 3 4]) (.cond (.tmp 11) (.seq (.ops [oX 4 3]) (.ret)) (.skip))) (q119c1)))⟩
theorem Cv119 : convF Tryz.f119 = some q119 := by kernel_rfl
abbrev Fn120 : FuncId := 120
def q120c0 : QCode := .seq (.ops [oA 19 1 3, oB 4 19 3]) (.ret)
@[simp] theorem q120c0R : type_of% (run_is q120c0.eq_1) := run_is rfl
def q120c1 : QCode := .seq (.ops [oA 12 1 3, oD 13 142 2 1 0, oC 14 9 13 9, oF 15 14 9 3, oAH 16 3 12 15 3 3, oB 1 16 3]) (.seq (.seq (.ops [oA 17 1 3, oV 18 3 17 0 3 4]) (.cond (.tmp 18) (.seq (.ops [oX 4 3]) (.ret)) (.skip))) (q120c0))
@[simp] theorem q120c1R : type_of% (run_is q120c1.eq_1) := run_is rfl
@[simp] def q120 : QFn := ⟨20, [(.tmp 4, 3)], .seq (.ops [oO 2 142 0 0, oG 4 0 3]) (.seq (.ops [oA 5 1 3, oD 6 142 2 0 0, oC 7 9 6 9, oF 8 7 9 3, oAH 9 3 5 8 3 3, oB 1 9 3]) (.seq (.seq (.ops [oA 10 1 3, oV 11 3 10 0 3 4]) (.cond (.tmp 11) (.seq (.ops [oX 4 3]) (.ret)) (.skip))) (q120c1)))⟩
theorem Cv120 : convF Tryz.f120 = some q120 := by kernel_rfl
abbrev Fn121 : FuncId := 121
def q121c0 : QCode := .seq (.ops [oA 19 1 3, oB 4 19 3]) (.ret)
@[simp] theorem q121c0R : type_of% (run_is q121c0.eq_1) := run_is rfl
def q121c1 : QCode := .seq (.ops [oA 12 1 3, oD 13 144 2 1 0, oC 14 9 13 9, oF 15 14 9 3, oAH 16 3 12 15 3 3, oB 1 16 3]) (.seq (.seq (.ops [oA 17 1 3, oV 18 3 17 0 3 4]) (.cond (.tmp 18) (.seq (.ops [oX 4 3]) (.ret)) (.skip))) (q121c0))
@[simp] theorem q121c1R : type_of% (run_is q121c1.eq_1) := run_is rfl
@[simp] def q121 : QFn := ⟨20, [(.tmp 4, 3)], .seq (.ops [oO 2 144 0 0, oG 4 0 3]) (.seq (.ops [oA 5 1 3, oD 6 144 2 0 0, oC 7 9 6 9, oF 8 7 9 3, oAH 9 3 5 8 3 3, oB 1 9 3]) (.seq (.seq (.ops [oA 10 1 3, oV 11 3 10 0 3 4]) (.cond (.tmp 11) (.seq (.ops [oX 4 3]) (.ret)) (.skip))) (q121c1)))⟩
theorem Cv121 : convF Tryz.f121 = some q121 := by kernel_rfl
abbrev Fn122 : FuncId := 122
@[simp] def q122 : QFn := ⟨11, [(.cell 2 33, 33)], .seq (.ops [oO 1 138 0 0, oW 2 33 0]) (.seq (.ops [oW 3 33 0]) (.seq (.ops [oD 4 138 1 0 0, oC 5 9 4 9, oD 6 33 3 0 0, oL 9 6 5 0]) (.seq (.ops [oD 7 138 1 1 0, oC 8 9 7 9, oD 9 33 3 1 0, oL 9 9 8 0]) (.seq (.ops [oC 10 33 3 33, oL 33 2 10 0]) (.ret)))))⟩
theorem Cv122 : convF Tryz.f122 = some q122 := by kernel_rfl
abbrev Fn123 : FuncId := 123
@[simp] def q123 : QFn := ⟨14, [(.cell 2 94, 94)], .seq (.ops [oO 1 140 0 0, oW 2 94 0]) (.seq (.ops [oW 3 94 0]) (.seq (.ops [oD 4 140 1 0 0, oC 5 9 4 9, oD 6 94 3 0 0, oL 9 6 5 0]) (.seq (.ops [oD 7 140 1 1 0, oC 8 3 7 3, oD 9 94 3 1 0, oL 3 9 8 0]) (.seq (.ops [oD 10 140 1 2 0, oC 11 9 10 9, oD 12 94 3 2 0, oL 9 12 11 0]) (.seq (.ops [oC 13 94 3 94, oL 94 2 13 0]) (.ret))))))⟩
theorem Cv123 : convF Tryz.f123 = some q123 := by kernel_rfl
abbrev Fn124 : FuncId := 124
@[simp] def q124 : QFn := ⟨11, [(.cell 2 97, 97)], .seq (.ops [oO 1 142 0 0, oW 2 97 0]) (.seq (.ops [oW 3 97 0]) (.seq (.ops [oD 4 142 1 0 0, oC 5 9 4 9, oD 6 97 3 0 0, oL 9 6 5 0]) (.seq (.ops [oD 7 142 1 1 0, oC 8 9 7 9, oD 9 97 3 1 0, oL 9 9 8 0]) (.seq (.ops [oC 10 97 3 97, oL 97 2 10 0]) (.ret)))))⟩
theorem Cv124 : convF Tryz.f124 = some q124 := by kernel_rfl
abbrev Fn125 : FuncId := 125
@[simp] def q125 : QFn := ⟨11, [(.cell 2 35, 35)], .seq (.ops [oO 1 144 0 0, oW 2 35 0]) (.seq (.ops [oW 3 35 0]) (.seq (.ops [oD 4 144 1 0 0, oC 5 9 4 9, oD 6 35 3 0 0, oL 9 6 5 0]) (.seq (.ops [oD 7 144 1 1 0, oC 8 9 7 9, oD 9 35 3 1 0, oL 9 9 8 0]) (.seq (.ops [oC 10 35 3 35, oL 35 2 10 0]) (.ret)))))⟩
theorem Cv125 : convF Tryz.f125 = some q125 := by kernel_rfl
abbrev Fn126 : FuncId := 126
def q126c0 : QCode := .seq (.ops [oY 4 4]) (.ret)
@[simp] theorem q126c0R : type_of% (run_is q126c0.eq_1) := run_is rfl
def q126c1 : QCode := .seq (.seq (.ops [oD 10 33 2 1 0, oC 11 9 10 9, oD 12 33 3 1 0, oC 13 9 12 9, oAE 14 9 11 13 9 4]) (.cond (.tmp 14) (.seq (.ops [oE 4 4]) (.ret)) (.skip))) (q126c0)
@[simp] theorem q126c1R : type_of% (run_is q126c1.eq_1) := run_is rfl
@[simp] def q126 : QFn := ⟨15, [(.tmp 4, 4)], .seq (.ops [oO 2 33 0 0, oO 3 33 1 0, oE 4 4]) (.seq (.seq (.ops [oD 5 33 2 0 0, oC 6 9 5 9, oD 7 33 3 0 0, oC 8 9 7 9, oAE 9 9 6 8 9 4]) (.cond (.tmp 9) (.seq (.ops [oE 4 4]) (.ret)) (.skip))) (q126c1))⟩
theorem Cv126 : convF Tryz.f126 = some q126 := by kernel_rfl
abbrev Fn127 : FuncId := 127
def q127c0 : QCode := .seq (.ops [oY 4 4]) (.ret)
@[simp] theorem q127c0R : type_of% (run_is q127c0.eq_1) := run_is rfl
def q127c1 : QCode := .seq (.seq (.ops [oD 15 94 2 2 0, oC 16 9 15 9, oD 17 94 3 2 0, oC 18 9 17 9, oAE 19 9 16 18 9 4]) (.cond (.tmp 19) (.seq (.ops [oE 4 4]) (.ret)) (.skip))) (q127c0)
@[simp] theorem q127c1R : type_of% (run_is q127c1.eq_1) := run_is rfl
def q127c2 : QCode := .seq (.seq (.ops [oD 10 94 2 1 0, oC 11 3 10 3, oD 12 94 3 1 0, oC 13 3 12 3, oAE 14 3 11 13 3 4]) (.cond (.tmp 14) (.seq (.ops [oE 4 4]) (.ret)) (.skip))) (q127c1)
@[simp] theorem q127c2R : type_of% (run_is q127c2.eq_1) := run_is rfl
@[simp] def q127 : QFn := ⟨20, [(.tmp 4, 4)], .seq (.ops [oO 2 94 0 0, oO 3 94 1 0, oE 4 4]) (.seq (.seq (.ops [oD 5 94 2 0 0, oC 6 9 5 9, oD 7 94 3 0 0, oC 8 9 7 9, oAE 9 9 6 8 9 4]) (.cond (.tmp 9) (.seq (.ops [oE 4 4]) (.ret)) (.skip))) (q127c2))⟩
theorem Cv127 : convF Tryz.f127 = some q127 := by kernel_rfl
abbrev Fn128 : FuncId := 128
def q128c0 : QCode := .seq (.ops [oY 4 4]) (.ret)
@[simp] theorem q128c0R : type_of% (run_is q128c0.eq_1) := run_is rfl
def q128c1 : QCode := .seq (.seq (.ops [oD 10 97 2 1 0, oC 11 9 10 9, oD 12 97 3 1 0, oC 13 9 12 9, oAE 14 9 11 13 9 4]) (.cond (.tmp 14) (.seq (.ops [oE 4 4]) (.ret)) (.skip))) (q128c0)
@[simp] theorem q128c1R : type_of% (run_is q128c1.eq_1) := run_is rfl
@[simp] def q128 : QFn := ⟨15, [(.tmp 4, 4)], .seq (.ops [oO 2 97 0 0, oO 3 97 1 0, oE 4 4]) (.seq (.seq (.ops [oD 5 97 2 0 0, oC 6 9 5 9, oD 7 97 3 0 0, oC 8 9 7 9, oAE 9 9 6 8 9 4]) (.cond (.tmp 9) (.seq (.ops [oE 4 4]) (.ret)) (.skip))) (q128c1))⟩
theorem Cv128 : convF Tryz.f128 = some q128 := by kernel_rfl
abbrev Fn129 : FuncId := 129
def q129c0 : QCode := .seq (.ops [oY 4 4]) (.ret)
@[simp] theorem q129c0R : type_of% (run_is q129c0.eq_1) := run_is rfl
def q129c1 : QCode := .seq (.seq (.ops [oD 10 35 2 1 0, oC 11 9 10 9, oD 12 35 3 1 0, oC 13 9 12 9, oAE 14 9 11 13 9 4]) (.cond (.tmp 14) (.seq (.ops [oE 4 4]) (.ret)) (.skip))) (q129c0)
@[simp] theorem q129c1R : type_of% (run_is q129c1.eq_1) := run_is rfl
@[simp] def q129 : QFn := ⟨15, [(.tmp 4, 4)], .seq (.ops [oO 2 35 0 0, oO 3 35 1 0, oE 4 4]) (.seq (.seq (.ops [oD 5 35 2 0 0, oC 6 9 5 9, oD 7 35 3 0 0, oC 8 9 7 9, oAE 9 9 6 8 9 4]) (.cond (.tmp 9) (.seq (.ops [oE 4 4]) (.ret)) (.skip))) (q129c1))⟩
theorem Cv129 : convF Tryz.f129 = some q129 := by kernel_rfl
abbrev Fn146 : FuncId := 146
def q146c0 : QCode := .ops [oC 23 167 4 167, oA 24 6 3, oAA 25 167 1 0 24 167, oAB 26 23 25 167 167 167, oL 167 4 26 0]
@[simp] theorem q146c0R : type_of% (run_is q146c0.eq_1) := run_is rfl
def q146c1 : QCode := .seq (.ops [oC 27 167 4 167, oL 167 2 27 0, ⟨none, .store 4 (.tmp 3) (.const (.bool true)), 0, none⟩]) (.ret)
@[simp] theorem q146c1R : type_of% (run_is q146c1.eq_1) := run_is rfl
@[simp] def q146 : QFn := ⟨28, [(.cell 2 167, 167), (.cell 3 4, 4)], .seq (.ops [oW 2 167 0, oW 3 4 0]) (.seq (.ops [oW 4 167 0]) (.seq (.seq (.ops [oA 8 0 9, ⟨some 9, .call { callee := .value (.func 70), args := #[.tmp 8, .const (.string { data := #[46] })], argTypes := #[9, 9] }, 104, none⟩]) (.block 0 (.range 9 [10] (.ops [oB 5 10 9]) (.block 1 (.seq (.ops [oA 12 5 9, ⟨some 13, .call { callee := .value (.func 174), args := #[.tmp 12, .const (.int .i64 999)], argTypes := #[9, 3] }, 186, none⟩, oA 11 13 186, oS 14 11 0 3, oS 15 11 1 4, oB 6 14 3, oB 7 15 4]) (.seq (.seq (.ops [oA 16 7 4, oR 17 4 16 4, oA 18 17 4, oAI 19 167 4 167 18, oAP 20 19 167 3 18, ⟨some 21, .binOp .eql 3 (.tmp 20) (.const (.int .i64 4)) 3, 4, some (18, false)⟩, oP 22 18 21 4]) (.cond (.tmp 22) (.seq (.ops [⟨none, .store 167 (.tmp 2) (.const (.slice none 0 0)), 0, none⟩, ⟨none, .store 4 (.tmp 3) (.const (.bool false)), 0, none⟩]) (.ret)) (.skip))) (q146c0))))))) (q146c1)))⟩
theorem Cv146 : convF Tryz.f146 = some q146 := by kernel_rfl
abbrev Fn147 : FuncId := 147
@[simp] def q147 : QFn := ⟨18, [(.tmp 2, 4)], .seq (.ops [oE 2 4]) (.seq (.ops [oA 3 0 9, oF 4 3 9 3, ⟨some 5, .binOp .leq 3 (.tmp 4) (.const (.int .i64 10)) 3, 4, none⟩, oA 6 5 4, oQ 7 0 9 6, ⟨some 8, .binOp .neq 9 (.tmp 7) (.const (.string { data := #[46] })) 9, 4, some (6, true)⟩, oU 9 6 8 4, oA 10 9 4, oQ 11 0 9 10, ⟨some 12, .binOp .neq 9 (.tmp 11) (.const (.string { data := #[46, 46] })) 9, 4, some (10, true)⟩, oU 13 10 12 4, oA 14 13 4, oQ 15 0 9 14, oAL 16 175 15 9 4 14, oU 17 14 16 4, oB 2 17 4]) (.ret))⟩
theorem Cv147 : convF Tryz.f147 = some q147 := by kernel_rfl
abbrev Fn148 : FuncId := 148
def q148c0 : QCode := .ops [oH 34 3 9 1 3 3, oA 9 34 3]
@[simp] theorem q148c0R : type_of% (run_is q148c0.eq_1) := run_is rfl
def q148c1 : QCode := .seq (.block 1 (.seq (.ops [oA 11 9 3, oB 3 11 3]) (.seq (.ops [oA 12 0 9, oA 13 3 3, oAG 14 9 12 13 5, ⟨some 15, .binOp .lss 5 (.tmp 14) (.const (.int .u8 48)) 5, 4, none⟩, oA 16 15 4, oK 17 0 9 16, oK 18 3 3 16, oAN 19 9 17 18 5 16, oAQ 20 5 19 57 5 4 16, oP 21 16 20 4, oA 22 21 4, oQ 23 0 9 22, oQ 24 3 3 22, ⟨some 25, .index 9 (.tmp 23) (.tmp 24), 5, some (22, true)⟩, ⟨some 26, .binOp .lss 5 (.tmp 25) (.const (.int .u8 97)) 5, 4, some (22, true)⟩, oQ 27 26 4 22, oK 28 0 9 27, oK 29 3 3 27, oAN 30 9 28 29 5 27, oAQ 31 5 30 102 5 4 27, ⟨some 32, .pick (.tmp 27) (.const (.bool true)) (.tmp 31), 4, some (22, true)⟩, oU 33 22 32 4]) (.cond (.tmp 33) (.seq (.ops [oE 2 4]) (.ret)) (.skip))))) (q148c0)
@[simp] theorem q148c1R : type_of% (run_is q148c1.eq_1) := run_is rfl
def q148l0 : QCode := .seq (.ops [oJ 10 3 9 8 3 4]) (.seq (.cond (.tmp 10) (.skip) (.exit 0)) (q148c1))
@[simp] theorem q148l0R : type_of% (run_is q148l0.eq_1) := run_is rfl
def q148c2 : QCode := .seq (.ops [oY 2 4]) (.ret)
@[simp] theorem q148c2R : type_of% (run_is q148c2.eq_1) := run_is rfl
def q148c3 : QCode := .seq (.seq (.ops [oA 7 0 9, oF 8 7 9 3, oAF 9 0 3]) (.block 0 (.loop q148l0))) (q148c2)
@[simp] theorem q148c3R : type_of% (run_is q148c3.eq_1) := run_is rfl
@[simp] def q148 : QFn := ⟨35, [(.tmp 2, 4)], .seq (.ops [oE 2 4]) (.seq (.seq (.ops [oA 4 0 9, oF 5 4 9 3, ⟨some 6, .binOp .neq 3 (.tmp 5) (.const (.int .i64 16)) 3, 4, none⟩]) (.cond (.tmp 6) (.seq (.ops [oE 2 4]) (.ret)) (.skip))) (q148c3))⟩
theorem Cv148 : convF Tryz.f148 = some q148 := by kernel_rfl
abbrev Fn149 : FuncId := 149
@[simp] def q149 : QFn := ⟨11, [(.tmp 2, 4)], .seq (.ops [oE 2 4]) (.seq (.ops [oA 6 0 9, oI 7 176 6 9 189, oA 5 7 189, oS 8 5 0 188, oS 9 5 1 4, oB 3 8 188, oB 4 9 4]) (.seq (.ops [oA 10 4 4, oB 2 10 4]) (.ret)))⟩
theorem Cv149 : convF Tryz.f149 = some q149 := by kernel_rfl
abbrev Fn150 : FuncId := 150
def q150c0 : QCode := .ops [oH 17 3 9 1 3 3, oA 9 17 3]
@[simp] theorem q150c0R : type_of% (run_is q150c0.eq_1) := run_is rfl
def q150c1 : QCode := .seq (.block 1 (.seq (.ops [oA 11 9 3, oB 3 11 3]) (.seq (.ops [oA 12 0 9, oA 13 3 3, oAG 14 9 12 13 5, oI 15 177 14 5 4, oR 16 4 15 4]) (.cond (.tmp 16) (.seq (.ops [oE 2 4]) (.ret)) (.skip))))) (q150c0)
@[simp] theorem q150c1R : type_of% (run_is q150c1.eq_1) := run_is rfl
def q150l0 : QCode := .seq (.ops [oJ 10 3 9 8 3 4]) (.seq (.cond (.tmp 10) (.skip) (.exit 0)) (q150c1))
@[simp] theorem q150l0R : type_of% (run_is q150l0.eq_1) := run_is rfl
def q150c2 : QCode := .seq (.ops [oY 2 4]) (.ret)
@[simp] theorem q150c2R : type_of% (run_is q150c2.eq_1) := run_is rfl
def q150c3 : QCode := .seq (.seq (.ops [oA 7 0 9, oF 8 7 9 3, oAF 9 0 3]) (.block 0 (.loop q150l0))) (q150c2)
@[simp] theorem q150c3R : type_of% (run_is q150c3.eq_1) := run_is rfl
@[simp] def q150 : QFn := ⟨18, [(.tmp 2, 4)], .seq (.ops [oE 2 4]) (.seq (.seq (.ops [oA 4 0 9, oF 5 4 9 3, oAM 6 3 5 80 3 4]) (.cond (.tmp 6) (.seq (.ops [oE 2 4]) (.ret)) (.skip))) (q150c3))⟩
theorem Cv150 : convF Tryz.f150 = some q150 := by kernel_rfl
abbrev Fn151 : FuncId := 151
def q151c0 : QCode := .seq (.ops [⟨some 5, .buildSlice 27 0 #[], 27, none⟩, oA 6 0 27, oAB 7 5 6 27 27 27, oB 2 7 27]) (.ret)
@[simp] theorem q151c0R : type_of% (run_is q151c0.eq_1) := run_is rfl
@[simp] def q151 : QFn := ⟨8, [(.tmp 2, 27)], .seq (.ops [oZ 2 27]) (.seq (.seq (.ops [oA 3 0 27, ⟨some 4, .binOp .eql 27 (.tmp 3) (.const (.slice none 0 0)) 27, 4, none⟩]) (.cond (.tmp 4) (.seq (.ops [oZ 2 27]) (.ret)) (.skip))) (q151c0))⟩
theorem Cv151 : convF Tryz.f151 = some q151 := by kernel_rfl
abbrev Fn152 : FuncId := 152
@[simp] def q152 : QFn := ⟨9, [(.tmp 4, 4)], .seq (.ops [oE 4 4]) (.seq (.ops [oA 5 0 27, oA 6 1 9, oN 7 178 5 6 27 9 3, ⟨some 8, .binOp .geq 3 (.tmp 7) (.const (.int .i64 0)) 3, 4, none⟩, oB 4 8 4]) (.ret))⟩
theorem Cv152 : convF Tryz.f152 = some q152 := by kernel_rfl
abbrev Fn153 : FuncId := 153
@[simp] def q153 : QFn := ⟨6, [(.tmp 2, 4)], .seq (.ops [oO 1 33 0 0, oE 2 4]) (.seq (.ops [oC 3 33 1 33, oI 4 88 3 33 4, oR 5 4 4 4, oB 2 5 4]) (.ret))⟩
theorem Cv153 : convF Tryz.f153 = some q153 := by kernel_rfl
abbrev Fn154 : FuncId := 154
@[simp] def q154 : QFn := ⟨9, [(.tmp 4, 4)], .seq (.ops [oE 4 4]) (.seq (.ops [oA 5 0 23, oA 6 1 115, oN 7 179 5 6 23 115 3, ⟨some 8, .binOp .geq 3 (.tmp 7) (.const (.int .i64 0)) 3, 4, none⟩, oB 4 8 4]) (.ret))⟩
theorem Cv154 : convF Tryz.f154 = some q154 := by kernel_rfl
abbrev Fn155 : FuncId := 155
def q155c0 : QCode := .ops [oA 50 9 9, oB 1 50 9]
@[simp] theorem q155c0R : type_of% (run_is q155c0.eq_1) := run_is rfl
def q155c1 : QCode := .seq (.ops [oA 38 6 9, oA 39 1 9, oA 40 7 3, ⟨some 41, .slice 9 (.tmp 39) none (some (.tmp 40)) none, 9, none⟩, oA 42 11 9, ⟨some 43, .binOp .add 9 (.tmp 41) (.tmp 42) 9, 9, none⟩, ⟨some 44, .binOp .add 9 (.tmp 38) (.tmp 43) 9, 9, none⟩, oB 6 44 9]) (.seq (.seq (.ops [oA 45 6 9, oF 46 45 9 3, oAM 47 3 46 80 3 4]) (.cond (.tmp 47) (.seq (.ops [⟨some 48, .build 195 #[(0, .const (.int .i64 5))], 195, none⟩, ⟨some 49, .makeInterface 195 (.tmp 48), 88, none⟩, oT 4 9, oB 5 49 88]) (.ret)) (.skip))) (q155c0))
@[simp] theorem q155c1R : type_of% (run_is q155c1.eq_1) := run_is rfl
def q155c2 : QCode := .seq (.ops [oA 30 0 193, oA 31 8 9, oN 32 181 30 31 193 9 173, oA 29 32 173, oS 33 29 0 9, oS 34 29 1 88, oB 11 33 9, oB 12 34 88]) (.seq (.seq (.ops [oA 35 12 88, ⟨some 36, .binOp .neq 88 (.tmp 35) (.const .nilIface) 88, 4, none⟩]) (.cond (.tmp 36) (.seq (.ops [oA 37 12 88, oT 4 9, oB 5 37 88]) (.ret)) (.skip))) (q155c1))
@[simp] theorem q155c2R : type_of% (run_is q155c2.eq_1) := run_is rfl
def q155c3 : QCode := .seq (.ops [oA 18 1 9, oA 19 7 3, ⟨some 20, .slice 9 (.tmp 18) (some (.tmp 19)) none none, 9, none⟩, oI 21 180 20 9 134, oA 17 21 134, oS 22 17 0 9, oS 23 17 1 9, oS 24 17 2 4, oB 8 22 9, oB 9 23 9, oB 10 24 4]) (.seq (.seq (.ops [oA 25 10 4, oR 26 4 25 4]) (.cond (.tmp 26) (.seq (.ops [⟨some 27, .build 195 #[(0, .const (.int .i64 1))], 195, none⟩, ⟨some 28, .makeInterface 195 (.tmp 27), 88, none⟩, oT 4 9, oB 5 28 88]) (.ret)) (.skip))) (q155c2))
@[simp] theorem q155c3R : type_of% (run_is q155c3.eq_1) := run_is rfl
def q155l0 : QCode := .block 1 (.seq (.ops [oA 13 1 9, ⟨some 14, .call { callee := .value (.func 168), args := #[.tmp 13, .const (.string { data := #[36, 123] })], argTypes := #[9, 9] }, 3, none⟩, oB 7 14 3]) (.seq (.seq (.ops [oA 15 7 3, oV 16 3 15 0 3 4]) (.cond (.tmp 16) (.exit 0) (.skip))) (q155c3)))
@[simp] theorem q155l0R : type_of% (run_is q155l0.eq_1) := run_is rfl
def q155c4 : QCode := .seq (.ops [oA 59 6 9, oB 4 59 9, ⟨some 5, .assign (.const .nilIface), 88, none⟩]) (.ret)
@[simp] theorem q155c4R : type_of% (run_is q155c4.eq_1) := run_is rfl
def q155c5 : QCode := .seq (.ops [oA 51 6 9, oA 52 1 9, ⟨some 53, .binOp .add 9 (.tmp 51) (.tmp 52) 9, 9, none⟩, oB 6 53 9]) (.seq (.seq (.ops [oA 54 6 9, oF 55 54 9 3, oAM 56 3 55 80 3 4]) (.cond (.tmp 56) (.seq (.ops [⟨some 57, .build 195 #[(0, .const (.int .i64 5))], 195, none⟩, ⟨some 58, .makeInterface 195 (.tmp 57), 88, none⟩, oT 4 9, oB 5 58 88]) (.ret)) (.skip))) (q155c4))
@[simp] theorem q155c5R : type_of% (run_is q155c5.eq_1) := run_is rfl
@[simp] def q155 : QFn := ⟨60, [(.tmp 4, 9), (.tmp 5, 88)], .seq (.ops [oT 4 9, ⟨some 5, .assign (.const .nilIface), 88, none⟩]) (.seq (.ops [oT 6 9]) (.seq (.block 0 (.loop q155l0)) (q155c5)))⟩
theorem Cv155 : convF Tryz.f155 = some q155 := by kernel_rfl
abbrev Fn157 : FuncId := 157
@[simp] def q157 : QFn := ⟨29, [(.tmp 2, 4)], .seq (.ops [oE 2 4]) (.seq (.ops [oA 3 0 5, ⟨some 4, .binOp .geq 5 (.tmp 3) (.const (.int .u8 97)) 5, 4, none⟩, oA 5 4 4, oQ 6 0 5 5, oAR 7 5 6 122 5 4 5, oU 8 5 7 4, oA 9 8 4, oK 10 0 5 9, ⟨some 11, .binOp .geq 5 (.tmp 10) (.const (.int .u8 48)) 5, 4, some (9, false)⟩, oK 12 11 4 9, oQ 13 0 5 12, oAR 14 5 13 57 5 4 12, ⟨some 15, .pick (.tmp 12) (.tmp 14) (.const (.bool false)), 4, some (9, false)⟩, oP 16 9 15 4, oA 17 16 4, oK 18 0 5 17, ⟨some 19, .binOp .eql 5 (.tmp 18) (.const (.int .u8 46)) 5, 4, some (17, false)⟩, oP 20 17 19 4, oA 21 20 4, oK 22 0 5 21, ⟨some 23, .binOp .eql 5 (.tmp 22) (.const (.int .u8 95)) 5, 4, some (21, false)⟩, oP 24 21 23 4, oA 25 24 4, oK 26 0 5 25, ⟨some 27, .binOp .eql 5 (.tmp 26) (.const (.int .u8 45)) 5, 4, some (25, false)⟩, oP 28 25 27 4, oB 2 28 4]) (.ret))⟩
theorem Cv157 : convF Tryz.f157 = some q157 := by kernel_rfl
abbrev Fn158 : FuncId := 158
@[simp] def q158 : QFn := ⟨15, [(.tmp 6, 4)], .seq (.ops [oE 6 4]) (.seq (.ops [oA 7 0 3, oA 8 1 3, ⟨some 9, .binOp .geq 3 (.tmp 7) (.tmp 8) 3, 4, none⟩, oA 10 9 4, oQ 11 0 3 10, oQ 12 2 3 10, ⟨some 13, .binOp .leq 3 (.tmp 11) (.tmp 12) 3, 4, some (10, true)⟩, oU 14 10 13 4, oB 6 14 4]) (.ret))⟩
theorem Cv158 : convF Tryz.f158 = some q158 := by kernel_rfl
abbrev Fn159 : FuncId := 159
def q159c0 : QCode := .ops [oA 22 3 3, oA 23 4 3, ⟨some 24, .binOp .add 3 (.tmp 22) (.tmp 23) 3, 3, none⟩, ⟨some 25, .binOp .sub 3 (.tmp 24) (.const (.int .i64 1)) 3, 3, none⟩, oB 3 25 3]
@[simp] theorem q159c0R : type_of% (run_is q159c0.eq_1) := run_is rfl
def q159c1 : QCode := .ops [oA 9 3 3, oH 10 3 9 1 3 3, oB 3 10 3]
@[simp] theorem q159c1R : type_of% (run_is q159c1.eq_1) := run_is rfl
def q159c2 : QCode := .seq (.block 1 (.block 2 (.seq (.ops [oA 12 0 9, oA 13 3 3, oAG 14 9 12 13 5, ⟨some 15, .binOp .eql 5 (.tmp 14) (.const (.int .u8 91)) 5, 4, none⟩, oB 11 15 4]) (.cond (.tmp 11) (.seq (.ops [oA 16 0 9, oA 17 3 3, ⟨some 18, .slice 9 (.tmp 16) (some (.tmp 17)) none none, 9, none⟩, oI 19 183 18 9 3, oB 4 19 3]) (.seq (.seq (.ops [oA 20 4 3, ⟨some 21, .binOp .eql 3 (.tmp 20) (.const (.int .i64 0)) 3, 4, none⟩]) (.cond (.tmp 21) (.seq (.ops [oE 2 4]) (.ret)) (.skip))) (q159c0))) (.seq (.ops [oA 27 0 9, oA 28 3 3, oAG 29 9 27 28 5, ⟨some 30, .binOp .eql 5 (.tmp 29) (.const (.int .u8 42)) 5, 4, none⟩, oA 31 30 4, oK 32 0 9 31, oK 33 3 3 31, oAN 34 9 32 33 5 31, ⟨some 35, .binOp .eql 5 (.tmp 34) (.const (.int .u8 63)) 5, 4, some (31, false)⟩, oP 36 31 35 4, oB 26 36 4]) (.cond (.tmp 26) (.exit 1) (.seq (.ops [oA 38 0 9, oA 39 3 3, oAG 40 9 38 39 5, oI 41 157 40 5 4, oR 42 4 41 4, oB 37 42 4]) (.cond (.tmp 37) (.seq (.ops [oE 2 4]) (.ret)) (.skip))))))))) (q159c1)
@[simp] theorem q159c2R : type_of% (run_is q159c2.eq_1) := run_is rfl
def q159l0 : QCode := .seq (.seq (.ops [oA 5 3 3, oA 6 0 9, oF 7 6 9 3, oJ 8 3 5 7 3 4]) (.cond (.tmp 8) (.skip) (.exit 0))) (q159c2)
@[simp] theorem q159l0R : type_of% (run_is q159l0.eq_1) := run_is rfl
def q159c3 : QCode := .seq (.ops [oA 43 0 9, ⟨some 44, .binOp .neq 9 (.tmp 43) (.const (.string { data := #[] })) 9, 4, none⟩, oB 2 44 4]) (.ret)
@[simp] theorem q159c3R : type_of% (run_is q159c3.eq_1) := run_is rfl
@[simp] def q159 : QFn := ⟨45, [(.tmp 2, 4)], .seq (.ops [oE 2 4]) (.seq (.seq (.ops [oG 3 0 3]) (.block 0 (.loop q159l0))) (q159c3))⟩
theorem Cv159 : convF Tryz.f159 = some q159 := by kernel_rfl
abbrev Fn160 : FuncId := 160
def q160c0 : QCode := .ops [oA 29 5 166, oA 30 7 3, oAA 31 166 1 0 30 166, oAB 32 29 31 166 166 166, oB 5 32 166]
@[simp] theorem q160c0R : type_of% (run_is q160c0.eq_1) := run_is rfl
def q160c1 : QCode := .ops [oA 18 6 3, oH 19 3 18 1 3 3, oB 6 19 3]
@[simp] theorem q160c1R : type_of% (run_is q160c1.eq_1) := run_is rfl
def q160c2 : QCode := .seq (.block 1 (.seq (.ops [oA 20 4 27, oA 21 6 3, oM 22 27 20 21 0, oC 23 9 22 9, oI 24 184 23 9 3, oB 7 24 3]) (.seq (.seq (.ops [oA 25 7 3, oAU 26 158 25 0 999 3 3 3 4, oR 27 4 26 4]) (.cond (.tmp 27) (.seq (.ops [oA 28 5 166, oB 2 28 166, oE 3 4]) (.ret)) (.skip))) (q160c0)))) (q160c1)
@[simp] theorem q160c2R : type_of% (run_is q160c2.eq_1) := run_is rfl
def q160l0 : QCode := .seq (.seq (.ops [oA 14 6 3, oA 15 4 27, oF 16 15 27 3, oJ 17 3 14 16 3 4]) (.cond (.tmp 17) (.skip) (.exit 0))) (q160c2)
@[simp] theorem q160l0R : type_of% (run_is q160l0.eq_1) := run_is rfl
def q160c3 : QCode := .seq (.ops [oA 33 5 166, oA 34 4 27, oF 35 34 27 3, ⟨some 36, .binOp .leq 3 (.tmp 35) (.const (.int .i64 4)) 3, 4, none⟩, oB 2 33 166, oB 3 36 4]) (.ret)
@[simp] theorem q160c3R : type_of% (run_is q160c3.eq_1) := run_is rfl
@[simp] def q160 : QFn := ⟨37, [(.tmp 2, 166), (.tmp 3, 4)], .seq (.ops [oZ 2 166, oE 3 4]) (.seq (.ops [oA 8 0 9, oA 9 0 9, oF 10 9 9 3, oH 11 3 10 1 3 3, ⟨some 12, .call { callee := .value (.func 67), args := #[.tmp 8, .const (.int .u8 46), .tmp 11], argTypes := #[9, 5, 3] }, 27, none⟩, oB 4 12 27]) (.seq (.ops [⟨some 13, .buildSlice 166 0 #[], 166, none⟩, oB 5 13 166]) (.seq (.seq (.ops [oG 6 0 3]) (.block 0 (.loop q160l0))) (q160c3))))⟩
theorem Cv160 : convF Tryz.f160 = some q160 := by kernel_rfl
abbrev Fn161 : FuncId := 161
@[simp] def q161 : QFn := ⟨26, [(.tmp 2, 4)], .seq (.ops [oO 1 94 0 0, oE 2 4]) (.seq (.ops [oD 3 94 1 0 0, oC 4 9 3 9, oI 5 109 4 9 4, oA 6 5 4, oAC 7 94 1 1 0 6, oAD 8 3 7 3 6, ⟨some 9, .binOp .eql 3 (.tmp 8) (.const (.int .i64 0)) 3, 4, some (6, true)⟩, oQ 10 9 4 6, oAC 11 94 1 2 0 10, oAD 12 9 11 9 10, ⟨some 13, .binOp .eql 9 (.tmp 12) (.const (.string { data := #[] })) 9, 4, some (10, true)⟩, ⟨some 14, .pick (.tmp 10) (.tmp 13) (.const (.bool false)), 4, some (6, true)⟩, oQ 15 14 4 6, oAJ 16 94 1 1 0 15, oAI 17 3 16 3 15, ⟨some 18, .call { callee := .value (.func 158), args := #[.tmp 17, .const (.int .i64 1), .const (.int .i64 3)], argTypes := #[3, 3, 3] }, 4, some (15, false)⟩, oK 19 18 4 15, oAC 20 94 1 2 0 19, oAD 21 9 20 9 19, oAL 22 112 21 9 4 19, ⟨some 23, .pick (.tmp 19) (.tmp 22) (.const (.bool false)), 4, some (15, false)⟩, ⟨some 24, .pick (.tmp 15) (.const (.bool true)) (.tmp 23), 4, some (6, true)⟩, oU 25 6 24 4, oB 2 25 4]) (.ret))⟩
theorem Cv161 : convF Tryz.f161 = some q161 := by kernel_rfl
abbrev Fn174 : FuncId := 174
def q174c0 : QCode := .ops [oA 40 6 3, ⟨some 41, .binOp .mul 3 (.tmp 40) (.const (.int .i64 10)) 3, 3, none⟩, oA 42 0 9, oA 43 7 3, oAG 44 9 42 43 5, ⟨some 45, .binOp .sub 5 (.tmp 44) (.const (.int .u8 48)) 5, 5, none⟩, ⟨some 46, .convert 5 3 (.tmp 45), 3, none⟩, ⟨some 47, .binOp .add 3 (.tmp 41) (.tmp 46) 3, 3, none⟩, oB 6 47 3]
@[simp] theorem q174c0R : type_of% (run_is q174c0.eq_1) := run_is rfl
def q174c1 : QCode := .ops [oH 48 3 27 1 3 3, oA 27 48 3]
@[simp] theorem q174c1R : type_of% (run_is q174c1.eq_1) := run_is rfl
def q174c2 : QCode := .seq (.block 1 (.seq (.ops [oA 29 27 3, oB 7 29 3]) (.seq (.seq (.ops [oA 30 0 9, oA 31 7 3, oAG 32 9 30 31 5, ⟨some 33, .binOp .lss 5 (.tmp 32) (.const (.int .u8 48)) 5, 4, none⟩, oA 34 33 4, oK 35 0 9 34, oK 36 7 3 34, oAN 37 9 35 36 5 34, oAQ 38 5 37 57 5 4 34, oP 39 34 38 4]) (.cond (.tmp 39) (.seq (.ops [oG 4 0 3, oE 5 4]) (.ret)) (.skip))) (q174c0)))) (q174c1)
@[simp] theorem q174c2R : type_of% (run_is q174c2.eq_1) := run_is rfl
def q174l0 : QCode := .seq (.ops [oJ 28 3 27 26 3 4]) (.seq (.cond (.tmp 28) (.skip) (.exit 0)) (q174c2))
@[simp] theorem q174l0R : type_of% (run_is q174l0.eq_1) := run_is rfl
def q174c3 : QCode := .seq (.ops [oA 52 6 3, oB 4 52 3, oY 5 4]) (.ret)
@[simp] theorem q174c3R : type_of% (run_is q174c3.eq_1) := run_is rfl
def q174c4 : QCode := .seq (.seq (.ops [oA 49 6 3, oA 50 1 3, ⟨some 51, .binOp .gtr 3 (.tmp 49) (.tmp 50) 3, 4, none⟩]) (.cond (.tmp 51) (.seq (.ops [oG 4 0 3, oE 5 4]) (.ret)) (.skip))) (q174c3)
@[simp] theorem q174c4R : type_of% (run_is q174c4.eq_1) := run_is rfl
def q174c5 : QCode := .seq (.ops [oG 6 0 3]) (.seq (.seq (.ops [oA 25 0 9, oF 26 25 9 3, oAF 27 0 3]) (.block 0 (.loop q174l0))) (q174c4))
@[simp] theorem q174c5R : type_of% (run_is q174c5.eq_1) := run_is rfl
@[simp] def q174 : QFn := ⟨53, [(.tmp 4, 3), (.tmp 5, 4)], .seq (.ops [oG 4 0 3, oE 5 4]) (.seq (.seq (.ops [oA 8 0 9, ⟨some 9, .binOp .eql 9 (.tmp 8) (.const (.string { data := #[] })) 9, 4, none⟩, oA 10 9 4, oK 11 0 9 10, oAP 12 11 9 3 10, ⟨some 13, .binOp .gtr 3 (.tmp 12) (.const (.int .i64 9)) 3, 4, some (10, false)⟩, oP 14 10 13 4, oA 15 14 4, oK 16 0 9 15, oAP 17 16 9 3 15, ⟨some 18, .binOp .gtr 3 (.tmp 17) (.const (.int .i64 1)) 3, 4, some (15, false)⟩, oK 19 18 4 15, oQ 20 0 9 19, ⟨some 21, .index 9 (.tmp 20) (.const (.int .i64 0)), 5, some (19, true)⟩, ⟨some 22, .binOp .eql 5 (.tmp 21) (.const (.int .u8 48)) 5, 4, some (19, true)⟩, ⟨some 23, .pick (.tmp 19) (.tmp 22) (.const (.bool false)), 4, some (15, false)⟩, oP 24 15 23 4]) (.cond (.tmp 24) (.seq (.ops [oG 4 0 3, oE 5 4]) (.ret)) (.skip))) (q174c5))⟩
theorem Cv174 : convF Tryz.f174 = some q174 := by kernel_rfl
abbrev Fn175 : FuncId := 175
def q175c0 : QCode := .ops [oH 14 3 6 1 3 3, oA 6 14 3]
@[simp] theorem q175c0R : type_of% (run_is q175c0.eq_1) := run_is rfl
def q175c1 : QCode := .seq (.block 1 (.seq (.ops [oA 8 6 3, oB 3 8 3]) (.seq (.ops [oA 9 0 9, oA 10 3 3, oAG 11 9 9 10 5, oI 12 195 11 5 4, oR 13 4 12 4]) (.cond (.tmp 13) (.seq (.ops [oE 2 4]) (.ret)) (.skip))))) (q175c0)
@[simp] theorem q175c1R : type_of% (run_is q175c1.eq_1) := run_is rfl
def q175l0 : QCode := .seq (.ops [oJ 7 3 6 5 3 4]) (.seq (.cond (.tmp 7) (.skip) (.exit 0)) (q175c1))
@[simp] theorem q175l0R : type_of% (run_is q175l0.eq_1) := run_is rfl
def q175c2 : QCode := .seq (.ops [oA 15 0 9, ⟨some 16, .binOp .neq 9 (.tmp 15) (.const (.string { data := #[] })) 9, 4, none⟩, oB 2 16 4]) (.ret)
@[simp] theorem q175c2R : type_of% (run_is q175c2.eq_1) := run_is rfl
@[simp] def q175 : QFn := ⟨17, [(.tmp 2, 4)], .seq (.ops [oE 2 4]) (.seq (.seq (.ops [oA 4 0 9, oF 5 4 9 3, oAF 6 0 3]) (.block 0 (.loop q175l0))) (q175c2))⟩
theorem Cv175 : convF Tryz.f175 = some q175 := by kernel_rfl
abbrev Fn176 : FuncId := 176
def q176c0 : QCode := .seq (.ops [⟨some 27, .makeFunc (.func 197) #[] #[.tmp 6], 54, none⟩, oB 8 27 54]) (.ops [oC 28 188 4 188, oA 29 5 9, ⟨some 30, .binOp .eql 9 (.tmp 29) (.const (.string { data := #[42, 42] })) 9, 4, none⟩, oA 31 8 54, ⟨some 32, .build 216 #[(0, .tmp 30), (1, .tmp 31)], 216, none⟩, oAA 33 188 1 0 32 188, oAB 34 28 33 188 188 188, oL 188 4 34 0])
@[simp] theorem q176c0R : type_of% (run_is q176c0.eq_1) := run_is rfl
def q176c1 : QCode := .seq (.ops [oC 35 188 4 188, oL 188 2 35 0, ⟨none, .store 4 (.tmp 3) (.const (.bool true)), 0, none⟩]) (.ret)
@[simp] theorem q176c1R : type_of% (run_is q176c1.eq_1) := run_is rfl
def q176c2 : QCode := .seq (.ops [oW 4 188 0]) (.seq (.seq (.ops [oA 12 0 9, ⟨some 13, .call { callee := .value (.func 70), args := #[.tmp 12, .const (.string { data := #[47] })], argTypes := #[9, 9] }, 104, none⟩]) (.block 0 (.range 13 [14] (.ops [oB 5 14 9]) (.block 1 (.seq (.ops [oA 16 5 9, oI 17 196 16 9 212, oA 15 17 212, oS 18 15 0 211, oS 19 15 1 4, oW 6 211 0, oL 211 6 18 0, oB 7 19 4]) (.seq (.seq (.ops [oA 20 7 4, oR 21 4 20 4, oA 22 21 4, oAI 23 188 4 188 22, oAP 24 23 188 3 22, ⟨some 25, .binOp .eql 3 (.tmp 24) (.const (.int .i64 5)) 3, 4, some (22, false)⟩, oP 26 22 25 4]) (.cond (.tmp 26) (.seq (.ops [⟨none, .store 188 (.tmp 2) (.const (.slice none 0 0)), 0, none⟩, ⟨none, .store 4 (.tmp 3) (.const (.bool false)), 0, none⟩]) (.ret)) (.skip))) (q176c0))))))) (q176c1))
@[simp] theorem q176c2R : type_of% (run_is q176c2.eq_1) := run_is rfl
@[simp] def q176 : QFn := ⟨36, [(.cell 2 188, 188), (.cell 3 4, 4)], .seq (.ops [oW 2 188 0, oW 3 4 0]) (.seq (.seq (.ops [oA 9 0 9, oF 10 9 9 3, oAM 11 3 10 40 3 4]) (.cond (.tmp 11) (.seq (.ops [⟨none, .store 188 (.tmp 2) (.const (.slice none 0 0)), 0, none⟩, ⟨none, .store 4 (.tmp 3) (.const (.bool false)), 0, none⟩]) (.ret)) (.skip))) (q176c2))⟩
theorem Cv176 : convF Tryz.f176 = some q176 := by kernel_rfl
abbrev Fn177 : FuncId := 177
@[simp] def q177 : QFn := ⟨9, [(.tmp 2, 4)], .seq (.ops [oE 2 4]) (.seq (.ops [oA 3 0 5, ⟨some 4, .binOp .geq 5 (.tmp 3) (.const (.int .u8 32)) 5, 4, none⟩, oA 5 4 4, oQ 6 0 5 5, oAR 7 5 6 126 5 4 5, oU 8 5 7 4, oB 2 8 4]) (.ret))⟩
theorem Cv177 : convF Tryz.f177 = some q177 := by kernel_rfl
abbrev Fn178 : FuncId := 178
def q178c0 : QCode := .ops [oH 18 3 8 1 3 3, oA 8 18 3]
@[simp] theorem q178c0R : type_of% (run_is q178c0.eq_1) := run_is rfl
def q178c1 : QCode := .seq (.block 1 (.seq (.ops [oA 10 8 3, oB 5 10 3]) (.seq (.ops [oA 11 1 9, oA 12 0 27, oA 13 5 3, oM 14 27 12 13 0, oC 15 9 14 9, ⟨some 16, .binOp .eql 9 (.tmp 11) (.tmp 15) 9, 4, none⟩]) (.cond (.tmp 16) (.seq (.ops [oA 17 5 3, oB 4 17 3]) (.ret)) (.skip))))) (q178c0)
@[simp] theorem q178c1R : type_of% (run_is q178c1.eq_1) := run_is rfl
def q178l0 : QCode := .seq (.ops [oJ 9 3 8 7 3 0]) (.seq (.cond (.tmp 9) (.skip) (.exit 0)) (q178c1))
@[simp] theorem q178l0R : type_of% (run_is q178l0.eq_1) := run_is rfl
def q178c2 : QCode := .seq (.ops [oX 4 3]) (.ret)
@[simp] theorem q178c2R : type_of% (run_is q178c2.eq_1) := run_is rfl
@[simp] def q178 : QFn := ⟨19, [(.tmp 4, 3)], .seq (.ops [oG 4 0 3]) (.seq (.seq (.ops [oA 6 0 27, oF 7 6 27 3, oAF 8 0 3]) (.block 0 (.loop q178l0))) (q178c2))⟩
theorem Cv178 : convF Tryz.f178 = some q178 := by kernel_rfl
abbrev Fn179 : FuncId := 179
def q179c0 : QCode := .ops [oH 18 3 8 1 3 3, oA 8 18 3]
@[simp] theorem q179c0R : type_of% (run_is q179c0.eq_1) := run_is rfl
def q179c1 : QCode := .seq (.block 1 (.seq (.ops [oA 10 8 3, oB 5 10 3]) (.seq (.ops [oA 11 1 115, oA 12 0 23, oA 13 5 3, oM 14 23 12 13 0, oC 15 33 14 33, oAK 16 11 15 33 4]) (.cond (.tmp 16) (.seq (.ops [oA 17 5 3, oB 4 17 3]) (.ret)) (.skip))))) (q179c0)
@[simp] theorem q179c1R : type_of% (run_is q179c1.eq_1) := run_is rfl
def q179l0 : QCode := .seq (.ops [oJ 9 3 8 7 3 0]) (.seq (.cond (.tmp 9) (.skip) (.exit 0)) (q179c1))
@[simp] theorem q179l0R : type_of% (run_is q179l0.eq_1) := run_is rfl
def q179c2 : QCode := .seq (.ops [oX 4 3]) (.ret)
@[simp] theorem q179c2R : type_of% (run_is q179c2.eq_1) := run_is rfl
@[simp] def q179 : QFn := ⟨19, [(.tmp 4, 3)], .seq (.ops [oG 4 0 3]) (.seq (.seq (.ops [oA 6 0 23, oF 7 6 23 3, oAF 8 0 3]) (.block 0 (.loop q179l0))) (q179c2))⟩
theorem Cv179 : convF Tryz.f179 = some q179 := by kernel_rfl
abbrev Fn180 : FuncId := 180
def q180c0 : QCode := .seq (.ops [oA 22 5 9, oA 23 6 9, oB 2 22 9, oB 3 23 9, oY 4 4]) (.ret)
@[simp] theorem q180c0R : type_of% (run_is q180c0.eq_1) := run_is rfl
@[simp] def q180 : QFn := ⟨24, [(.tmp 2, 9), (.tmp 3, 9), (.tmp 4, 4)], .seq (.ops [oT 2 9, oT 3 9, oE 4 4]) (.seq (.ops [oA 9 0 9, ⟨some 10, .call { callee := .value (.func 199), args := #[.tmp 9, .const (.string { data := #[36, 123] })], argTypes := #[9, 9] }, 9, none⟩, ⟨some 11, .call { callee := .value (.func 137), args := #[.tmp 10, .const (.string { data := #[125] })], argTypes := #[9, 9] }, 134, none⟩, oA 8 11 134, oS 12 8 0 9, oS 13 8 1 9, oS 14 8 2 4, oB 5 12 9, oB 6 13 9, oB 7 14 4]) (.seq (.seq (.ops [oA 15 7 4, oR 16 4 15 4, oA 17 16 4, oK 18 5 9 17, oAO 19 85 18 9 4 17, ⟨some 20, .unOp .not 4 (.tmp 19), 4, some (17, false)⟩, oP 21 17 20 4]) (.cond (.tmp 21) (.seq (.ops [oT 2 9, oT 3 9, oE 4 4]) (.ret)) (.skip))) (q180c0)))⟩
theorem Cv180 : convF Tryz.f180 = some q180 := by kernel_rfl
abbrev Fn181 : FuncId := 181
def q181c0 : QCode := .seq (.draw [] [⟨some 27, .move (.tmp 0), 193, none⟩, ⟨some 28, .move (.tmp 0), 193, none⟩, ⟨some 29, .nilCheck (.tmp 28), 0, none⟩, ⟨some 30, .fieldAddr 172 (.tmp 29) 1, 0, none⟩, ⟨some 31, .load 27 (.tmp 30), 27, none⟩, ⟨some 32, .load 9 (.tmp 3), 9, none⟩, ⟨some 33, .buildSlice 27 1 #[(0, .tmp 32)], 27, none⟩] [⟨some 34, .call { callee := .builtin .append, args := #[.tmp 31, .tmp 33], argTypes := #[27, 27] }, 27, none⟩, ⟨some 35, .nilCheck (.tmp 27), 0, none⟩, ⟨some 36, .fieldAddr 172 (.tmp 35) 1, 0, none⟩, ⟨none, .store 27 (.tmp 36) (.tmp 34), 0, none⟩]) (.seq (.ops [oA 38 0 193, oA 39 0 193, ⟨some 40, .nilCheck (.tmp 39), 0, none⟩, oD 41 172 40 0 0, oC 42 23 41 23, oA 43 6 3, oM 44 23 42 43 0, oD 45 33 44 1 0, oC 46 9 45 9, oN 47 155 38 46 193 9 173, oA 37 47 173, oS 48 37 0 9, oS 49 37 1 88, oB 7 48 9, oB 8 49 88]) (.seq (.draw [] [⟨some 50, .move (.tmp 0), 193, none⟩, ⟨some 51, .move (.tmp 0), 193, none⟩, ⟨some 52, .nilCheck (.tmp 51), 0, none⟩, ⟨some 53, .fieldAddr 172 (.tmp 52) 1, 0, none⟩, ⟨some 54, .load 27 (.tmp 53), 27, none⟩, ⟨some 55, .move (.tmp 0), 193, none⟩, ⟨some 56, .nilCheck (.tmp 55), 0, none⟩, ⟨some 57, .fieldAddr 172 (.tmp 56) 1, 0, none⟩, ⟨some 58, .load 27 (.tmp 57), 27, none⟩, ⟨some 59, .call { callee := .builtin .len, args := #[.tmp 58], argTypes := #[27] }, 3, none⟩, ⟨some 60, .binOp .sub 3 (.tmp 59) (.const (.int .i64 1)) 3, 3, none⟩] [⟨some 61, .slice 27 (.tmp 54) none (some (.tmp 60)) none, 27, none⟩, ⟨some 62, .nilCheck (.tmp 50), 0, none⟩, ⟨some 63, .fieldAddr 172 (.tmp 62) 1, 0, none⟩, ⟨none, .store 27 (.tmp 63) (.tmp 61), 0, none⟩]) (.seq (.ops [oA 64 7 9, oA 65 8 88, oB 4 64 9, oB 5 65 88]) (.ret))))
@[simp] theorem q181c0R : type_of% (run_is q181c0.eq_1) := run_is rfl
def q181c1 : QCode := .seq (.seq (.draw [] [⟨some 19, .move (.tmp 0), 193, none⟩, ⟨some 20, .nilCheck (.tmp 19), 0, none⟩, ⟨some 21, .fieldAddr 172 (.tmp 20) 1, 0, none⟩, ⟨some 22, .load 27 (.tmp 21), 27, none⟩, ⟨some 23, .load 9 (.tmp 3), 9, none⟩] [⟨some 24, .call { callee := .value (.func 152), args := #[.tmp 22, .tmp 23], argTypes := #[27, 9] }, 4, none⟩]) (.cond (.tmp 24) (.seq (.ops [⟨some 25, .build 195 #[(0, .const (.int .i64 4))], 195, none⟩, ⟨some 26, .makeInterface 195 (.tmp 25), 88, none⟩, oT 4 9, oB 5 26 88]) (.ret)) (.skip))) (q181c0)
@[simp] theorem q181c1R : type_of% (run_is q181c1.eq_1) := run_is rfl
@[simp] def q181 : QFn := ⟨66, [(.tmp 4, 9), (.tmp 5, 88)], .seq (.ops [oO 3 9 1 0, oT 4 9, ⟨some 5, .assign (.const .nilIface), 88, none⟩]) (.seq (.ops [oA 9 0 193, ⟨some 10, .nilCheck (.tmp 9), 0, none⟩, oD 11 172 10 0 0, oC 12 23 11 23, ⟨some 13, .makeFunc (.func 200) #[] #[.tmp 3], 115, none⟩, oN 14 179 12 13 23 115 3, oB 6 14 3]) (.seq (.seq (.ops [oA 15 6 3, oV 16 3 15 0 3 4]) (.cond (.tmp 16) (.seq (.ops [⟨some 17, .build 195 #[(0, .const (.int .i64 3))], 195, none⟩, ⟨some 18, .makeInterface 195 (.tmp 17), 88, none⟩, oT 4 9, oB 5 18 88]) (.ret)) (.skip))) (q181c1)))⟩
theorem Cv181 : convF Tryz.f181 = some q181 := by kernel_rfl
abbrev Fn183 : FuncId := 183
def q183c0 : QCode := .block 1 (.ops [oA 24 3 3, oH 25 3 24 1 3 3, oB 3 25 3])
@[simp] theorem q183c0R : type_of% (run_is q183c0.eq_1) := run_is rfl
def q183l0 : QCode := .seq (.seq (.ops [oA 14 3 3, oA 15 0 9, oF 16 15 9 3, oJ 17 3 14 16 3 4, oA 18 17 4, oQ 19 0 9 18, oQ 20 3 3 18, ⟨some 21, .index 9 (.tmp 19) (.tmp 20), 5, some (18, true)⟩, oAL 22 157 21 5 4 18, oU 23 18 22 4]) (.cond (.tmp 23) (.skip) (.exit 0))) (q183c0)
@[simp] theorem q183l0R : type_of% (run_is q183l0.eq_1) := run_is rfl
def q183c1 : QCode := .seq (.ops [oA 41 3 3, oH 42 3 41 1 3 3, oB 2 42 3]) (.ret)
@[simp] theorem q183c1R : type_of% (run_is q183c1.eq_1) := run_is rfl
def q183c2 : QCode := .seq (.seq (.ops [oA 26 3 3, oA 27 4 3, ⟨some 28, .binOp .eql 3 (.tmp 26) (.tmp 27) 3, 4, none⟩, oA 29 28 4, oK 30 3 3 29, oK 31 0 9 29, oAP 32 31 9 3 29, ⟨some 33, .binOp .eql 3 (.tmp 30) (.tmp 32) 3, 4, some (29, false)⟩, oP 34 29 33 4, oA 35 34 4, oK 36 0 9 35, oK 37 3 3 35, oAN 38 9 36 37 5 35, ⟨some 39, .binOp .neq 5 (.tmp 38) (.const (.int .u8 93)) 5, 4, some (35, false)⟩, oP 40 35 39 4]) (.cond (.tmp 40) (.seq (.ops [oG 2 0 3]) (.ret)) (.skip))) (q183c1)
@[simp] theorem q183c2R : type_of% (run_is q183c2.eq_1) := run_is rfl
def q183c3 : QCode := .seq (.ops [oA 13 3 3, oB 4 13 3]) (.seq (.block 0 (.loop q183l0)) (q183c2))
@[simp] theorem q183c3R : type_of% (run_is q183c3.eq_1) := run_is rfl
@[simp] def q183 : QFn := ⟨43, [(.tmp 2, 3)], .seq (.ops [oG 2 0 3]) (.seq (.ops [oG 3 1 3]) (.seq (.seq (.ops [oA 5 0 9, oF 6 5 9 3, oAM 7 3 6 1 3 4, oA 8 7 4, oQ 9 0 9 8, ⟨some 10, .index 9 (.tmp 9) (.const (.int .i64 1)), 5, some (8, true)⟩, ⟨some 11, .binOp .eql 5 (.tmp 10) (.const (.int .u8 33)) 5, 4, some (8, true)⟩, oU 12 8 11 4]) (.cond (.tmp 12) (.ops [oG 3 2 3]) (.skip))) (q183c3)))⟩
theorem Cv183 : convF Tryz.f183 = some q183 := by kernel_rfl
abbrev Fn184 : FuncId := 184
def q184c0 : QCode := .ops [oA 25 3 3, ⟨some 26, .binOp .mul 3 (.tmp 25) (.const (.int .i64 10)) 3, 3, none⟩, oA 27 0 9, oA 28 4 3, oAG 29 9 27 28 5, ⟨some 30, .binOp .sub 5 (.tmp 29) (.const (.int .u8 48)) 5, 5, none⟩, ⟨some 31, .convert 5 3 (.tmp 30), 3, none⟩, ⟨some 32, .binOp .add 3 (.tmp 26) (.tmp 31) 3, 3, none⟩, oB 3 32 3]
@[simp] theorem q184c0R : type_of% (run_is q184c0.eq_1) := run_is rfl
def q184c1 : QCode := .ops [oA 9 4 3, oH 10 3 9 1 3 3, oB 4 10 3]
@[simp] theorem q184c1R : type_of% (run_is q184c1.eq_1) := run_is rfl
def q184c2 : QCode := .seq (.block 1 (.seq (.seq (.ops [oA 11 0 9, oA 12 4 3, oAG 13 9 11 12 5, ⟨some 14, .binOp .lss 5 (.tmp 13) (.const (.int .u8 48)) 5, 4, none⟩, oA 15 14 4, oK 16 0 9 15, oK 17 4 3 15, oAN 18 9 16 17 5 15, oAQ 19 5 18 57 5 4 15, oP 20 15 19 4, oA 21 20 4, oK 22 4 3 21, ⟨some 23, .binOp .geq 3 (.tmp 22) (.const (.int .i64 6)) 3, 4, some (21, false)⟩, oP 24 21 23 4]) (.cond (.tmp 24) (.seq (.ops [oX 2 3]) (.ret)) (.skip))) (q184c0))) (q184c1)
@[simp] theorem q184c2R : type_of% (run_is q184c2.eq_1) := run_is rfl
def q184l0 : QCode := .seq (.seq (.ops [oA 5 4 3, oA 6 0 9, oF 7 6 9 3, oJ 8 3 5 7 3 4]) (.cond (.tmp 8) (.skip) (.exit 0))) (q184c2)
@[simp] theorem q184l0R : type_of% (run_is q184l0.eq_1) := run_is rfl
def q184c3 : QCode := .seq (.ops [oA 46 3 3, oB 2 46 3]) (.ret)
@[simp] theorem q184c3R : type_of% (run_is q184c3.eq_1) := run_is rfl
def q184c4 : QCode := .seq (.seq (.ops [oA 33 0 9, oF 34 33 9 3, ⟨some 35, .binOp .eql 3 (.tmp 34) (.const (.int .i64 0)) 3, 4, none⟩, oA 36 35 4, oK 37 0 9 36, oAP 38 37 9 3 36, ⟨some 39, .binOp .gtr 3 (.tmp 38) (.const (.int .i64 1)) 3, 4, some (36, false)⟩, oK 40 39 4 36, oQ 41 0 9 40, ⟨some 42, .index 9 (.tmp 41) (.const (.int .i64 0)), 5, some (40, true)⟩, ⟨some 43, .binOp .eql 5 (.tmp 42) (.const (.int .u8 48)) 5, 4, some (40, true)⟩, ⟨some 44, .pick (.tmp 40) (.tmp 43) (.const (.bool false)), 4, some (36, false)⟩, oP 45 36 44 4]) (.cond (.tmp 45) (.seq (.ops [oX 2 3]) (.ret)) (.skip))) (q184c3)
@[simp] theorem q184c4R : type_of% (run_is q184c4.eq_1) := run_is rfl
@[simp] def q184 : QFn := ⟨47, [(.tmp 2, 3)], .seq (.ops [oG 2 0 3]) (.seq (.ops [oG 3 0 3]) (.seq (.seq (.ops [oG 4 0 3]) (.block 0 (.loop q184l0))) (q184c4)))⟩
theorem Cv184 : convF Tryz.f184 = some q184 := by kernel_rfl
abbrev Fn192 : FuncId := 192
@[simp] def q192 : QFn := ⟨18, [(.tmp 4, 4)], .seq (.ops [oE 4 4]) (.seq (.ops [oA 5 0 9, oF 6 5 9 3, oA 7 1 9, oF 8 7 9 3, ⟨some 9, .binOp .geq 3 (.tmp 6) (.tmp 8) 3, 4, none⟩, oA 10 9 4, oQ 11 0 9 10, oQ 12 1 9 10, oAS 13 12 9 3 10, ⟨some 14, .slice 9 (.tmp 11) none (some (.tmp 13)) none, 9, some (10, true)⟩, oQ 15 1 9 10, ⟨some 16, .binOp .eql 9 (.tmp 14) (.tmp 15) 9, 4, some (10, true)⟩, oU 17 10 16 4, oB 4 17 4]) (.ret))⟩
theorem Cv192 : convF Tryz.f192 = some q192 := by kernel_rfl
abbrev Fn195 : FuncId := 195
@[simp] def q195 : QFn := ⟨29, [(.tmp 2, 4)], .seq (.ops [oE 2 4]) (.seq (.ops [oA 3 0 5, ⟨some 4, .binOp .geq 5 (.tmp 3) (.const (.int .u8 97)) 5, 4, none⟩, oA 5 4 4, oQ 6 0 5 5, oAR 7 5 6 122 5 4 5, oU 8 5 7 4, oA 9 8 4, oK 10 0 5 9, ⟨some 11, .binOp .geq 5 (.tmp 10) (.const (.int .u8 48)) 5, 4, some (9, false)⟩, oK 12 11 4 9, oQ 13 0 5 12, oAR 14 5 13 57 5 4 12, ⟨some 15, .pick (.tmp 12) (.tmp 14) (.const (.bool false)), 4, some (9, false)⟩, oP 16 9 15 4, oA 17 16 4, oK 18 0 5 17, ⟨some 19, .binOp .eql 5 (.tmp 18) (.const (.int .u8 46)) 5, 4, some (17, false)⟩, oP 20 17 19 4, oA 21 20 4, oK 22 0 5 21, ⟨some 23, .binOp .eql 5 (.tmp 22) (.const (.int .u8 95)) 5, 4, some (21, false)⟩, oP 24 21 23 4, oA 25 24 4, oK 26 0 5 25, ⟨some 27, .binOp .eql 5 (.tmp 26) (.const (.int .u8 45)) 5, 4, some (25, false)⟩, oP 28 25 27 4, oB 2 28 4]) (.ret))⟩
theorem Cv195 : convF Tryz.f195 = some q195 := by kernel_rfl
abbrev Fn196 : FuncId := 196
def q196c0 : QCode := .ops [oC 40 241 9 241, oA 41 8 3, oH 42 3 41 1 3 3, oL 241 7 40 0, oB 6 42 3]
@[simp] theorem q196c0R : type_of% (run_is q196c0.eq_1) := run_is rfl
def q196c1 : QCode := .seq (.ops [oA 32 0 9, oA 33 8 3, ⟨some 34, .slice 9 (.tmp 32) (some (.const (.int .i64 1))) (some (.tmp 33)) none, 9, none⟩, oI 35 215 34 9 242, oA 31 35 242, oS 36 31 0 241, oS 37 31 1 4, oW 9 241 0, oL 241 9 36 0, oB 10 37 4]) (.seq (.seq (.ops [oA 38 10 4, oR 39 4 38 4]) (.cond (.tmp 39) (.seq (.ops [oZ 2 211, oE 3 4]) (.ret)) (.skip))) (q196c0))
@[simp] theorem q196c1R : type_of% (run_is q196c1.eq_1) := run_is rfl
def q196c2 : QCode := .seq (.ops [oA 48 4 211, oC 49 241 7 241, oAA 50 211 1 0 49 211, oAB 51 48 50 211 211 211, oB 4 51 211]) (.ops [oA 52 0 9, oA 53 6 3, ⟨some 54, .slice 9 (.tmp 52) (some (.tmp 53)) none none, 9, none⟩, oB 0 54 9])
@[simp] theorem q196c2R : type_of% (run_is q196c2.eq_1) := run_is rfl
def q196c3 : QCode := .block 1 (.seq (.ops [oA 13 0 9, ⟨some 14, .index 9 (.tmp 13) (.const (.int .i64 0)), 5, none⟩, oW 5 5 0, oL 5 5 14 0]) (.seq (.ops [oG 6 1 3]) (.seq (.ops [⟨some 15, .build 241 #[], 241, none⟩, oW 7 241 0, oL 241 7 15 0]) (.seq (.block 2 (.seq (.ops [oC 17 5 5 5, ⟨some 18, .binOp .eql 5 (.tmp 17) (.const (.int .u8 42)) 5, 4, none⟩, oB 16 18 4]) (.cond (.tmp 16) (.ops [oD 19 241 7 0 0, ⟨none, .store 4 (.tmp 19) (.const (.bool true)), 0, none⟩]) (.seq (.ops [oC 21 5 5 5, ⟨some 22, .binOp .eql 5 (.tmp 21) (.const (.int .u8 63)) 5, 4, none⟩, oB 20 22 4]) (.cond (.tmp 20) (.ops [oD 23 241 7 1 0, ⟨none, .store 176 (.tmp 23) (.func 214), 0, none⟩]) (.seq (.ops [oC 25 5 5 5, ⟨some 26, .binOp .eql 5 (.tmp 25) (.const (.int .u8 91)) 5, 4, none⟩, oB 24 26 4]) (.cond (.tmp 24) (.seq (.ops [oA 27 0 9, ⟨some 28, .call { callee := .value (.func 209), args := #[.tmp 27, .const (.int .u8 93)], argTypes := #[9, 5] }, 3, none⟩, oB 8 28 3]) (.seq (.seq (.ops [oA 29 8 3, oV 30 3 29 0 3 4]) (.cond (.tmp 30) (.seq (.ops [oZ 2 211, oE 3 4]) (.ret)) (.skip))) (q196c1))) (.seq (.ops [oC 44 5 5 5, oI 45 195 44 5 4, oB 43 45 4]) (.cond (.tmp 43) (.ops [⟨some 46, .makeFunc (.func 216) #[] #[.tmp 5], 176, none⟩, oD 47 241 7 1 0, oL 176 47 46 0]) (.seq (.ops [oZ 2 211, oE 3 4]) (.ret))))))))))) (q196c2)))))
@[simp] theorem q196c3R : type_of% (run_is q196c3.eq_1) := run_is rfl
def q196l0 : QCode := .seq (.seq (.ops [oA 11 0 9, ⟨some 12, .binOp .neq 9 (.tmp 11) (.const (.string { data := #[] })) 9, 4, none⟩]) (.cond (.tmp 12) (.skip) (.exit 0))) (q196c3)
@[simp] theorem q196l0R : type_of% (run_is q196l0.eq_1) := run_is rfl
def q196c4 : QCode := .seq (.ops [oA 55 4 211, oA 56 4 211, oF 57 56 211 3, oAM 58 3 57 0 3 4, oB 2 55 211, oB 3 58 4]) (.ret)
@[simp] theorem q196c4R : type_of% (run_is q196c4.eq_1) := run_is rfl
@[simp] def q196 : QFn := ⟨59, [(.tmp 2, 211), (.tmp 3, 4)], .seq (.ops [oZ 2 211, oE 3 4]) (.seq (.ops [oZ 4 211]) (.seq (.block 0 (.loop q196l0)) (q196c4)))⟩
theorem Cv196 : convF Tryz.f196 = some q196 := by kernel_rfl
abbrev Fn199 : FuncId := 199
@[simp] def q199 : QFn := ⟨8, [(.tmp 4, 9)], .seq (.ops [oT 4 9]) (.seq (.ops [oA 5 0 9, oA 6 1 9, oN 7 217 5 6 9 9 9, oB 4 7 9]) (.ret))⟩
theorem Cv199 : convF Tryz.f199 = some q199 := by kernel_rfl
abbrev Fn200 : FuncId := 200
@[simp] def q200 : QFn := ⟨8, [(.tmp 3, 4)], .seq (.ops [oO 2 33 0 0, oE 3 4]) (.seq (.ops [oD 4 33 2 0 0, oC 5 9 4 9, oC 6 9 1 9, ⟨some 7, .binOp .eql 9 (.tmp 5) (.tmp 6) 9, 4, none⟩, oB 3 7 4]) (.ret))⟩
theorem Cv200 : convF Tryz.f200 = some q200 := by kernel_rfl
abbrev Fn215 : FuncId := 215
def q215c0 : QCode := .seq (.ops [⟨some 16, .makeFunc (.func 224) #[] #[.tmp 4, .tmp 5], 176, none⟩, oB 6 16 176]) (.seq (.ops [oA 17 6 176, ⟨some 18, .build 241 #[(1, .tmp 17)], 241, none⟩, oL 241 2 18 0, oY 3 4]) (.ret))
@[simp] theorem q215c0R : type_of% (run_is q215c0.eq_1) := run_is rfl
@[simp] def q215 : QFn := ⟨19, [(.cell 2 241, 241), (.tmp 3, 4)], .seq (.ops [oW 2 241 0, oE 3 4]) (.seq (.ops [oA 8 0 9, ⟨some 9, .call { callee := .value (.func 223), args := #[.tmp 8, .const (.string { data := #[33] })], argTypes := #[9, 9] }, 101, none⟩, oA 7 9 101, oS 10 7 0 9, oS 11 7 1 4, oW 4 9 0, oW 5 4 0, oL 9 4 10 0, oL 4 5 11 0]) (.seq (.seq (.ops [oC 12 9 4 9, oI 13 175 12 9 4, oR 14 4 13 4]) (.cond (.tmp 14) (.seq (.ops [⟨some 15, .build 241 #[], 241, none⟩, oL 241 2 15 0, oE 3 4]) (.ret)) (.skip))) (q215c0)))⟩
theorem Cv215 : convF Tryz.f215 = some q215 := by kernel_rfl
abbrev Fn217 : FuncId := 217
def q217c0 : QCode := .seq (.ops [oA 12 0 9, oB 4 12 9]) (.ret)
@[simp] def q217 : QFn := ⟨13, [(.tmp 4, 9)], .seq (.ops [oT 4 9]) (.seq (.seq (.ops [oA 5 0 9, oA 6 1 9, oN 7 192 5 6 9 9 4]) (.cond (.tmp 7) (.seq (.ops [oA 8 0 9, oA 9 1 9, oF 10 9 9 3, ⟨some 11, .slice 9 (.tmp 8) (some (.tmp 10)) none none, 9, none⟩, oB 4 11 9]) (.ret)) (.skip))) (q217c0))⟩
theorem Cv217 : convF Tryz.f217 = some q217 := by kernel_rfl
abbrev Fn223 : FuncId := 223
@[simp] def q223 : QFn := ⟨11, [(.tmp 4, 9), (.tmp 5, 4)], .seq (.ops [oT 4 9, oE 5 4]) (.seq (.ops [oA 6 0 9, oA 7 1 9, oN 8 225 6 7 9 9 101, oS 9 8 0 9, oS 10 8 1 4, oB 4 9 9, oB 5 10 4]) (.ret))⟩
theorem Cv223 : convF Tryz.f223 = some q223 := by kernel_rfl
abbrev Fn225 : FuncId := 225
def q225c0 : QCode := .seq (.ops [oA 11 0 9, oA 12 1 9, oF 13 12 9 3, ⟨some 14, .slice 9 (.tmp 11) (some (.tmp 13)) none none, 9, none⟩, oB 4 14 9, oY 5 4]) (.ret)
@[simp] theorem q225c0R : type_of% (run_is q225c0.eq_1) := run_is rfl
@[simp] def q225 : QFn := ⟨15, [(.tmp 4, 9), (.tmp 5, 4)], .seq (.ops [oT 4 9, oE 5 4]) (.seq (.seq (.ops [oA 6 0 9, oA 7 1 9, oN 8 192 6 7 9 9 4, oR 9 4 8 4]) (.cond (.tmp 9) (.seq (.ops [oA 10 0 9, oB 4 10 9, oE 5 4]) (.ret)) (.skip))) (q225c0))⟩
theorem Cv225 : convF Tryz.f225 = some q225 := by kernel_rfl
end Go.Qz
