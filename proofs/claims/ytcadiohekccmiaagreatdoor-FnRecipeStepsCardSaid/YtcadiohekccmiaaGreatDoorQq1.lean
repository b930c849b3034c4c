import Derived.Test.YtcadiohekccmiaaGreatDoorQq0
namespace Go.Qz
open Go.Proofs
def oA (a b c : Nat) : QOp := ⟨some a, .move (.tmp b), c, none⟩
@[simp] theorem oAdst (a b c : Nat) : (oA a b c).dst = some a := (rfl)
@[simp] theorem oAop (a b c : Nat) : (oA a b c).op = .move (.tmp b) := (rfl)
@[simp] theorem oAty (a b c : Nat) : (oA a b c).ty = c := (rfl)
@[simp] theorem oAg (a b c : Nat) : (oA a b c).g = none := (rfl)
def oB (a b c : Nat) : QOp := ⟨some a, .assign (.tmp b), c, none⟩
@[simp] theorem oBdst (a b c : Nat) : (oB a b c).dst = some a := (rfl)
@[simp] theorem oBop (a b c : Nat) : (oB a b c).op = .assign (.tmp b) := (rfl)
@[simp] theorem oBty (a b c : Nat) : (oB a b c).ty = c := (rfl)
@[simp] theorem oBg (a b c : Nat) : (oB a b c).g = none := (rfl)
def oC (a b c d : Nat) : QOp := ⟨some a, .load b (.tmp c), d, none⟩
@[simp] theorem oCdst (a b c d : Nat) : (oC a b c d).dst = some a := (rfl)
@[simp] theorem oCop (a b c d : Nat) : (oC a b c d).op = .load b (.tmp c) := (rfl)
@[simp] theorem oCty (a b c d : Nat) : (oC a b c d).ty = d := (rfl)
@[simp] theorem oCg (a b c d : Nat) : (oC a b c d).g = none := (rfl)
def oD (a b : Nat) : QOp := ⟨some a, .assign (.const (.bool false)), b, none⟩
@[simp] theorem oDdst (a b : Nat) : (oD a b).dst = some a := (rfl)
@[simp] theorem oDop (a b : Nat) : (oD a b).op = .assign (.const (.bool false)) := (rfl)
@[simp] theorem oDty (a b : Nat) : (oD a b).ty = b := (rfl)
@[simp] theorem oDg (a b : Nat) : (oD a b).g = none := (rfl)
def oE (a b c d : Nat) : QOp := ⟨some a, .call { callee := .builtin .len, args := #[.tmp b], argTypes := #[c] }, d, none⟩
@[simp] theorem oEdst (a b c d : Nat) : (oE a b c d).dst = some a := (rfl)
@[simp] theorem oEop (a b c d : Nat) : (oE a b c d).op = .call { callee := .builtin .len, args := #[.tmp b], argTypes := #[c] } := (rfl)
@[simp] theorem oEty (a b c d : Nat) : (oE a b c d).ty = d := (rfl)
@[simp] theorem oEg (a b c d : Nat) : (oE a b c d).g = none := (rfl)
def oF (a b c d e : Nat) : QOp := ⟨some a, .fieldAddr b (.tmp c) d, e, none⟩
@[simp] theorem oFdst (a b c d e : Nat) : (oF a b c d e).dst = some a := (rfl)
@[simp] theorem oFop (a b c d e : Nat) : (oF a b c d e).op = .fieldAddr b (.tmp c) d := (rfl)
@[simp] theorem oFty (a b c d e : Nat) : (oF a b c d e).ty = e := (rfl)
@[simp] theorem oFg (a b c d e : Nat) : (oF a b c d e).g = none := (rfl)
def oG (a : Nat) (b : Int) (c : Nat) : QOp := ⟨some a, .assign (.const (.int .i64 b)), c, none⟩
@[simp] theorem oGdst (a : Nat) (b : Int) (c : Nat) : (oG a b c).dst = some a := (rfl)
@[simp] theorem oGop (a : Nat) (b : Int) (c : Nat) : (oG a b c).op = .assign (.const (.int .i64 b)) := (rfl)
@[simp] theorem oGty (a : Nat) (b : Int) (c : Nat) : (oG a b c).ty = c := (rfl)
@[simp] theorem oGg (a : Nat) (b : Int) (c : Nat) : (oG a b c).g = none := (rfl)
def oH (a b c d e : Nat) : QOp := ⟨some a, .call { callee := .value (.func b), args := #[.tmp c], argTypes := #[d] }, e, none⟩
@[simp] theorem oHdst (a b c d e : Nat) : (oH a b c d e).dst = some a := (rfl)
@[simp] theorem oHop (a b c d e : Nat) : (oH a b c d e).op = .call { callee := .value (.func b), args := #[.tmp c], argTypes := #[d] } := (rfl)
@[simp] theorem oHty (a b c d e : Nat) : (oH a b c d e).ty = e := (rfl)
@[simp] theorem oHg (a b c d e : Nat) : (oH a b c d e).g = none := (rfl)
def oI (a b c d : Nat) : QOp := ⟨some a, .move (.tmp b), c, some (d, false)⟩
@[simp] theorem oIdst (a b c d : Nat) : (oI a b c d).dst = some a := (rfl)
@[simp] theorem oIop (a b c d : Nat) : (oI a b c d).op = .move (.tmp b) := (rfl)
@[simp] theorem oIty (a b c d : Nat) : (oI a b c d).ty = c := (rfl)
@[simp] theorem oIg (a b c d : Nat) : (oI a b c d).g = some (d, false) := (rfl)
def oJ (a : Nat) (b : Nat) (c : Nat) (d : Int) (e : Nat) (f : Nat) : QOp := ⟨some a, .binOp .add b (.tmp c) (.const (.int .i64 d)) e, f, none⟩
@[simp] theorem oJdst (a : Nat) (b : Nat) (c : Nat) (d : Int) (e : Nat) (f : Nat) : (oJ a b c d e f).dst = some a := (rfl)
@[simp] theorem oJop (a : Nat) (b : Nat) (c : Nat) (d : Int) (e : Nat) (f : Nat) : (oJ a b c d e f).op = .binOp .add b (.tmp c) (.const (.int .i64 d)) e := (rfl)
@[simp] theorem oJty (a : Nat) (b : Nat) (c : Nat) (d : Int) (e : Nat) (f : Nat) : (oJ a b c d e f).ty = f := (rfl)
@[simp] theorem oJg (a : Nat) (b : Nat) (c : Nat) (d : Int) (e : Nat) (f : Nat) : (oJ a b c d e f).g = none := (rfl)
def oK (a b c d e f : Nat) : QOp := ⟨some a, .binOp .lss b (.tmp c) (.tmp d) e, f, none⟩
@[simp] theorem oKdst (a b c d e f : Nat) : (oK a b c d e f).dst = some a := (rfl)
@[simp] theorem oKop (a b c d e f : Nat) : (oK a b c d e f).op = .binOp .lss b (.tmp c) (.tmp d) e := (rfl)
@[simp] theorem oKty (a b c d e f : Nat) : (oK a b c d e f).ty = f := (rfl)
@[simp] theorem oKg (a b c d e f : Nat) : (oK a b c d e f).g = none := (rfl)
def oL (a b : Nat) : QOp := ⟨some a, .assign (.const (.string { data := #[] })), b, none⟩
@[simp] theorem oLdst (a b : Nat) : (oL a b).dst = some a := (rfl)
@[simp] theorem oLop (a b : Nat) : (oL a b).op = .assign (.const (.string { data := #[] })) := (rfl)
@[simp] theorem oLty (a b : Nat) : (oL a b).ty = b := (rfl)
@[simp] theorem oLg (a b : Nat) : (oL a b).g = none := (rfl)
def oM (a b c d : Nat) : QOp := ⟨none, .store a (.tmp b) (.tmp c), d, none⟩
@[simp] theorem oMdst (a b c d : Nat) : (oM a b c d).dst = none := (rfl)
@[simp] theorem oMop (a b c d : Nat) : (oM a b c d).op = .store a (.tmp b) (.tmp c) := (rfl)
@[simp] theorem oMty (a b c d : Nat) : (oM a b c d).ty = d := (rfl)
@[simp] theorem oMg (a b c d : Nat) : (oM a b c d).g = none := (rfl)
def oN (a b c d : Nat) : QOp := ⟨some a, .pick (.tmp b) (.const (.bool true)) (.tmp c), d, none⟩
@[simp] theorem oNdst (a b c d : Nat) : (oN a b c d).dst = some a := (rfl)
@[simp] theorem oNop (a b c d : Nat) : (oN a b c d).op = .pick (.tmp b) (.const (.bool true)) (.tmp c) := (rfl)
@[simp] theorem oNty (a b c d : Nat) : (oN a b c d).ty = d := (rfl)
@[simp] theorem oNg (a b c d : Nat) : (oN a b c d).g = none := (rfl)
def oO (a b c d : Nat) : QOp := ⟨some a, .move (.tmp b), c, some (d, true)⟩
@[simp] theorem oOdst (a b c d : Nat) : (oO a b c d).dst = some a := (rfl)
@[simp] theorem oOop (a b c d : Nat) : (oO a b c d).op = .move (.tmp b) := (rfl)
@[simp] theorem oOty (a b c d : Nat) : (oO a b c d).ty = c := (rfl)
@[simp] theorem oOg (a b c d : Nat) : (oO a b c d).g = some (d, true) := (rfl)
def oP (a b c d : Nat) : QOp := ⟨some a, .pick (.tmp b) (.tmp c) (.const (.bool false)), d, none⟩
@[simp] theorem oPdst (a b c d : Nat) : (oP a b c d).dst = some a := (rfl)
@[simp] theorem oPop (a b c d : Nat) : (oP a b c d).op = .pick (.tmp b) (.tmp c) (.const (.bool false)) := (rfl)
@[simp] theorem oPty (a b c d : Nat) : (oP a b c d).ty = d := (rfl)
@[simp] theorem oPg (a b c d : Nat) : (oP a b c d).g = none := (rfl)
def oQ (a b c d : Nat) : QOp := ⟨some a, .extract (.tmp b) c, d, none⟩
@[simp] theorem oQdst (a b c d : Nat) : (oQ a b c d).dst = some a := (rfl)
@[simp] theorem oQop (a b c d : Nat) : (oQ a b c d).op = .extract (.tmp b) c := (rfl)
@[simp] theorem oQty (a b c d : Nat) : (oQ a b c d).ty = d := (rfl)
@[simp] theorem oQg (a b c d : Nat) : (oQ a b c d).g = none := (rfl)
def oR (a b c : Nat) : QOp := ⟨some a, .alloc b, c, none⟩
@[simp] theorem oRdst (a b c : Nat) : (oR a b c).dst = some a := (rfl)
@[simp] theorem oRop (a b c : Nat) : (oR a b c).op = .alloc b := (rfl)
@[simp] theorem oRty (a b c : Nat) : (oR a b c).ty = c := (rfl)
@[simp] theorem oRg (a b c : Nat) : (oR a b c).g = none := (rfl)
def oS (a b c d e : Nat) : QOp := ⟨some a, .indexAddr b (.tmp c) (.tmp d), e, none⟩
@[simp] theorem oSdst (a b c d e : Nat) : (oS a b c d e).dst = some a := (rfl)
@[simp] theorem oSop (a b c d e : Nat) : (oS a b c d e).op = .indexAddr b (.tmp c) (.tmp d) := (rfl)
@[simp] theorem oSty (a b c d e : Nat) : (oS a b c d e).ty = e := (rfl)
@[simp] theorem oSg (a b c d e : Nat) : (oS a b c d e).g = none := (rfl)
def oT (a b c d : Nat) : QOp := ⟨some a, .unOp .not b (.tmp c), d, none⟩
@[simp] theorem oTdst (a b c d : Nat) : (oT a b c d).dst = some a := (rfl)
@[simp] theorem oTop (a b c d : Nat) : (oT a b c d).op = .unOp .not b (.tmp c) := (rfl)
@[simp] theorem oTty (a b c d : Nat) : (oT a b c d).ty = d := (rfl)
@[simp] theorem oTg (a b c d : Nat) : (oT a b c d).g = none := (rfl)
def oU (a b c d e f g : Nat) : QOp := ⟨some a, .call { callee := .value (.func b), args := #[.tmp c, .tmp d], argTypes := #[e, f] }, g, none⟩
@[simp] theorem oUdst (a b c d e f g : Nat) : (oU a b c d e f g).dst = some a := (rfl)
@[simp] theorem oUop (a b c d e f g : Nat) : (oU a b c d e f g).op = .call { callee := .value (.func b), args := #[.tmp c, .tmp d], argTypes := #[e, f] } := (rfl)
@[simp] theorem oUty (a b c d e f g : Nat) : (oU a b c d e f g).ty = g := (rfl)
@[simp] theorem oUg (a b c d e f g : Nat) : (oU a b c d e f g).g = none := (rfl)
def oV (a b c d e f : Nat) : QOp := ⟨some a, .call { callee := .builtin .append, args := #[.tmp b, .tmp c], argTypes := #[d, e] }, f, none⟩
@[simp] theorem oVdst (a b c d e f : Nat) : (oV a b c d e f).dst = some a := (rfl)
@[simp] theorem oVop (a b c d e f : Nat) : (oV a b c d e f).op = .call { callee := .builtin .append, args := #[.tmp b, .tmp c], argTypes := #[d, e] } := (rfl)
@[simp] theorem oVty (a b c d e f : Nat) : (oV a b c d e f).ty = f := (rfl)
@[simp] theorem oVg (a b c d e f : Nat) : (oV a b c d e f).g = none := (rfl)
def oW (a : Nat) (b : Nat) (c : Nat) (d : Int) (e : Nat) (f : Nat) : QOp := ⟨some a, .binOp .eql b (.tmp c) (.const (.int .i64 d)) e, f, none⟩
@[simp] theorem oWdst (a : Nat) (b : Nat) (c : Nat) (d : Int) (e : Nat) (f : Nat) : (oW a b c d e f).dst = some a := (rfl)
@[simp] theorem oWop (a : Nat) (b : Nat) (c : Nat) (d : Int) (e : Nat) (f : Nat) : (oW a b c d e f).op = .binOp .eql b (.tmp c) (.const (.int .i64 d)) e := (rfl)
@[simp] theorem oWty (a : Nat) (b : Nat) (c : Nat) (d : Int) (e : Nat) (f : Nat) : (oW a b c d e f).ty = f := (rfl)
@[simp] theorem oWg (a : Nat) (b : Nat) (c : Nat) (d : Int) (e : Nat) (f : Nat) : (oW a b c d e f).g = none := (rfl)
def oX (a b : Nat) : QOp := ⟨some a, .assign (.const (.slice none 0 0)), b, none⟩
@[simp] theorem oXdst (a b : Nat) : (oX a b).dst = some a := (rfl)
@[simp] theorem oXop (a b : Nat) : (oX a b).op = .assign (.const (.slice none 0 0)) := (rfl)
@[simp] theorem oXty (a b : Nat) : (oX a b).ty = b := (rfl)
@[simp] theorem oXg (a b : Nat) : (oX a b).g = none := (rfl)
def oY (a b c d : Nat) : QOp := ⟨some a, .box b (.tmp c), d, none⟩
@[simp] theorem oYdst (a b c d : Nat) : (oY a b c d).dst = some a := (rfl)
@[simp] theorem oYop (a b c d : Nat) : (oY a b c d).op = .box b (.tmp c) := (rfl)
@[simp] theorem oYty (a b c d : Nat) : (oY a b c d).ty = d := (rfl)
@[simp] theorem oYg (a b c d : Nat) : (oY a b c d).g = none := (rfl)
def oZ (a b c d e f : Nat) : QOp := ⟨some a, .buildSlice b c #[(d, .tmp e)], f, none⟩
@[simp] theorem oZdst (a b c d e f : Nat) : (oZ a b c d e f).dst = some a := (rfl)
@[simp] theorem oZop (a b c d e f : Nat) : (oZ a b c d e f).op = .buildSlice b c #[(d, .tmp e)] := (rfl)
@[simp] theorem oZty (a b c d e f : Nat) : (oZ a b c d e f).ty = f := (rfl)
@[simp] theorem oZg (a b c d e f : Nat) : (oZ a b c d e f).g = none := (rfl)
def oAA (a b c d e : Nat) : QOp := ⟨some a, .load b (.tmp c), d, some (e, true)⟩
@[simp] theorem oAAdst (a b c d e : Nat) : (oAA a b c d e).dst = some a := (rfl)
@[simp] theorem oAAop (a b c d e : Nat) : (oAA a b c d e).op = .load b (.tmp c) := (rfl)
@[simp] theorem oAAty (a b c d e : Nat) : (oAA a b c d e).ty = d := (rfl)
@[simp] theorem oAAg (a b c d e : Nat) : (oAA a b c d e).g = some (e, true) := (rfl)
def oAB (a b : Nat) : QOp := ⟨some a, .assign (.const (.bool true)), b, none⟩
@[simp] theorem oABdst (a b : Nat) : (oAB a b).dst = some a := (rfl)
@[simp] theorem oABop (a b : Nat) : (oAB a b).op = .assign (.const (.bool true)) := (rfl)
@[simp] theorem oABty (a b : Nat) : (oAB a b).ty = b := (rfl)
@[simp] theorem oABg (a b : Nat) : (oAB a b).g = none := (rfl)
def oAC (a : Nat) (b : Nat) (c : Nat) (d : Int) (e : Nat) (f : Nat) (g : Nat) : QOp := ⟨some a, .call { callee := .value (.func b), args := #[.tmp c, .const (.int .i64 d)], argTypes := #[e, f] }, g, none⟩
@[simp] theorem oACdst (a : Nat) (b : Nat) (c : Nat) (d : Int) (e : Nat) (f : Nat) (g : Nat) : (oAC a b c d e f g).dst = some a := (rfl)
@[simp] theorem oACop (a : Nat) (b : Nat) (c : Nat) (d : Int) (e : Nat) (f : Nat) (g : Nat) : (oAC a b c d e f g).op = .call { callee := .value (.func b), args := #[.tmp c, .const (.int .i64 d)], argTypes := #[e, f] } := (rfl)
@[simp] theorem oACty (a : Nat) (b : Nat) (c : Nat) (d : Int) (e : Nat) (f : Nat) (g : Nat) : (oAC a b c d e f g).ty = g := (rfl)
@[simp] theorem oACg (a : Nat) (b : Nat) (c : Nat) (d : Int) (e : Nat) (f : Nat) (g : Nat) : (oAC a b c d e f g).g = none := (rfl)
def oAD (a b c d e f : Nat) : QOp := ⟨some a, .fieldAddr b (.tmp c) d, e, some (f, true)⟩
@[simp] theorem oADdst (a b c d e f : Nat) : (oAD a b c d e f).dst = some a := (rfl)
@[simp] theorem oADop (a b c d e f : Nat) : (oAD a b c d e f).op = .fieldAddr b (.tmp c) d := (rfl)
@[simp] theorem oADty (a b c d e f : Nat) : (oAD a b c d e f).ty = e := (rfl)
@[simp] theorem oADg (a b c d e f : Nat) : (oAD a b c d e f).g = some (f, true) := (rfl)
def oAE (a b c d e : Nat) : QOp := ⟨some a, .load b (.tmp c), d, some (e, false)⟩
@[simp] theorem oAEdst (a b c d e : Nat) : (oAE a b c d e).dst = some a := (rfl)
@[simp] theorem oAEop (a b c d e : Nat) : (oAE a b c d e).op = .load b (.tmp c) := (rfl)
@[simp] theorem oAEty (a b c d e : Nat) : (oAE a b c d e).ty = d := (rfl)
@[simp] theorem oAEg (a b c d e : Nat) : (oAE a b c d e).g = some (e, false) := (rfl)
def oAF (a : Nat) (b : Int) (c : Nat) : QOp := ⟨some a, .move (.const (.int .i64 b)), c, none⟩
@[simp] theorem oAFdst (a : Nat) (b : Int) (c : Nat) : (oAF a b c).dst = some a := (rfl)
@[simp] theorem oAFop (a : Nat) (b : Int) (c : Nat) : (oAF a b c).op = .move (.const (.int .i64 b)) := (rfl)
@[simp] theorem oAFty (a : Nat) (b : Int) (c : Nat) : (oAF a b c).ty = c := (rfl)
@[simp] theorem oAFg (a : Nat) (b : Int) (c : Nat) : (oAF a b c).g = none := (rfl)
def oAG (a b c d e : Nat) : QOp := ⟨some a, .index b (.tmp c) (.tmp d), e, none⟩
@[simp] theorem oAGdst (a b c d e : Nat) : (oAG a b c d e).dst = some a := (rfl)
@[simp] theorem oAGop (a b c d e : Nat) : (oAG a b c d e).op = .index b (.tmp c) (.tmp d) := (rfl)
@[simp] theorem oAGty (a b c d e : Nat) : (oAG a b c d e).ty = e := (rfl)
@[simp] theorem oAGg (a b c d e : Nat) : (oAG a b c d e).g = none := (rfl)
def oAH (a b c d e f : Nat) : QOp := ⟨some a, .fieldAddr b (.tmp c) d, e, some (f, false)⟩
@[simp] theorem oAHdst (a b c d e f : Nat) : (oAH a b c d e f).dst = some a := (rfl)
@[simp] theorem oAHop (a b c d e f : Nat) : (oAH a b c d e f).op = .fieldAddr b (.tmp c) d := (rfl)
@[simp] theorem oAHty (a b c d e f : Nat) : (oAH a b c d e f).ty = e := (rfl)
@[simp] theorem oAHg (a b c d e f : Nat) : (oAH a b c d e f).g = some (f, false) := (rfl)
def oAI (a : Nat) (b : Nat) (c : Nat) (d : Int) (e : Nat) (f : Nat) : QOp := ⟨some a, .binOp .gtr b (.tmp c) (.const (.int .i64 d)) e, f, none⟩
@[simp] theorem oAIdst (a : Nat) (b : Nat) (c : Nat) (d : Int) (e : Nat) (f : Nat) : (oAI a b c d e f).dst = some a := (rfl)
@[simp] theorem oAIop (a : Nat) (b : Nat) (c : Nat) (d : Int) (e : Nat) (f : Nat) : (oAI a b c d e f).op = .binOp .gtr b (.tmp c) (.const (.int .i64 d)) e := (rfl)
@[simp] theorem oAIty (a : Nat) (b : Nat) (c : Nat) (d : Int) (e : Nat) (f : Nat) : (oAI a b c d e f).ty = f := (rfl)
@[simp] theorem oAIg (a : Nat) (b : Nat) (c : Nat) (d : Int) (e : Nat) (f : Nat) : (oAI a b c d e f).g = none := (rfl)
def oAJ (a b c d e : Nat) : QOp := ⟨some a, .call { callee := .value (.tmp b), args := #[.tmp c], argTypes := #[d] }, e, none⟩
@[simp] theorem oAJdst (a b c d e : Nat) : (oAJ a b c d e).dst = some a := (rfl)
@[simp] theorem oAJop (a b c d e : Nat) : (oAJ a b c d e).op = .call { callee := .value (.tmp b), args := #[.tmp c], argTypes := #[d] } := (rfl)
@[simp] theorem oAJty (a b c d e : Nat) : (oAJ a b c d e).ty = e := (rfl)
@[simp] theorem oAJg (a b c d e : Nat) : (oAJ a b c d e).g = none := (rfl)
def oAK (a b c d e f : Nat) : QOp := ⟨some a, .call { callee := .value (.func b), args := #[.tmp c], argTypes := #[d] }, e, some (f, true)⟩
@[simp] theorem oAKdst (a b c d e f : Nat) : (oAK a b c d e f).dst = some a := (rfl)
@[simp] theorem oAKop (a b c d e f : Nat) : (oAK a b c d e f).op = .call { callee := .value (.func b), args := #[.tmp c], argTypes := #[d] } := (rfl)
@[simp] theorem oAKty (a b c d e f : Nat) : (oAK a b c d e f).ty = e := (rfl)
@[simp] theorem oAKg (a b c d e f : Nat) : (oAK a b c d e f).g = some (f, true) := (rfl)
def oAL (a b c d e f : Nat) : QOp := ⟨some a, .binOp .add b (.tmp c) (.tmp d) e, f, none⟩
@[simp] theorem oALdst (a b c d e f : Nat) : (oAL a b c d e f).dst = some a := (rfl)
@[simp] theorem oALop (a b c d e f : Nat) : (oAL a b c d e f).op = .binOp .add b (.tmp c) (.tmp d) e := (rfl)
@[simp] theorem oALty (a b c d e f : Nat) : (oAL a b c d e f).ty = f := (rfl)
@[simp] theorem oALg (a b c d e f : Nat) : (oAL a b c d e f).g = none := (rfl)
def oAM (a b c d e f : Nat) : QOp := ⟨some a, .call { callee := .value (.func b), args := #[.tmp c], argTypes := #[d] }, e, some (f, false)⟩
@[simp] theorem oAMdst (a b c d e f : Nat) : (oAM a b c d e f).dst = some a := (rfl)
@[simp] theorem oAMop (a b c d e f : Nat) : (oAM a b c d e f).op = .call { callee := .value (.func b), args := #[.tmp c], argTypes := #[d] } := (rfl)
@[simp] theorem oAMty (a b c d e f : Nat) : (oAM a b c d e f).ty = e := (rfl)
@[simp] theorem oAMg (a b c d e f : Nat) : (oAM a b c d e f).g = some (f, false) := (rfl)
def oAN (a : Nat) (b : Nat) (c : Nat) (d : Int) (e : Nat) (f : Nat) : QOp := ⟨some a, .binOp .lss b (.tmp c) (.const (.int .i64 d)) e, f, none⟩
@[simp] theorem oANdst (a : Nat) (b : Nat) (c : Nat) (d : Int) (e : Nat) (f : Nat) : (oAN a b c d e f).dst = some a := (rfl)
@[simp] theorem oANop (a : Nat) (b : Nat) (c : Nat) (d : Int) (e : Nat) (f : Nat) : (oAN a b c d e f).op = .binOp .lss b (.tmp c) (.const (.int .i64 d)) e := (rfl)
@[simp] theorem oANty (a : Nat) (b : Nat) (c : Nat) (d : Int) (e : Nat) (f : Nat) : (oAN a b c d e f).ty = f := (rfl)
@[simp] theorem oANg (a : Nat) (b : Nat) (c : Nat) (d : Int) (e : Nat) (f : Nat) : (oAN a b c d e f).g = none := (rfl)
def oAO (a b c d e f : Nat) : QOp := ⟨some a, .index b (.tmp c) (.tmp d), e, some (f, false)⟩
@[simp] theorem oAOdst (a b c d e f : Nat) : (oAO a b c d e f).dst = some a := (rfl)
@[simp] theorem oAOop (a b c d e f : Nat) : (oAO a b c d e f).op = .index b (.tmp c) (.tmp d) := (rfl)
@[simp] theorem oAOty (a b c d e f : Nat) : (oAO a b c d e f).ty = e := (rfl)
@[simp] theorem oAOg (a b c d e f : Nat) : (oAO a b c d e f).g = some (f, false) := (rfl)
def oAP (a : Nat) (b : Nat) (c : Nat) (d : Int) (e : Nat) (f : Nat) : QOp := ⟨some a, .binOp .neq b (.tmp c) (.const (.int .i64 d)) e, f, none⟩
@[simp] theorem oAPdst (a : Nat) (b : Nat) (c : Nat) (d : Int) (e : Nat) (f : Nat) : (oAP a b c d e f).dst = some a := (rfl)
@[simp] theorem oAPop (a : Nat) (b : Nat) (c : Nat) (d : Int) (e : Nat) (f : Nat) : (oAP a b c d e f).op = .binOp .neq b (.tmp c) (.const (.int .i64 d)) e := (rfl)
@[simp] theorem oAPty (a : Nat) (b : Nat) (c : Nat) (d : Int) (e : Nat) (f : Nat) : (oAP a b c d e f).ty = f := (rfl)
@[simp] theorem oAPg (a : Nat) (b : Nat) (c : Nat) (d : Int) (e : Nat) (f : Nat) : (oAP a b c d e f).g = none := (rfl)
def oAQ (a b c d e : Nat) : QOp := ⟨some a, .call { callee := .builtin .len, args := #[.tmp b], argTypes := #[c] }, d, some (e, false)⟩
@[simp] theorem oAQdst (a b c d e : Nat) : (oAQ a b c d e).dst = some a := (rfl)
@[simp] theorem oAQop (a b c d e : Nat) : (oAQ a b c d e).op = .call { callee := .builtin .len, args := #[.tmp b], argTypes := #[c] } := (rfl)
@[simp] theorem oAQty (a b c d e : Nat) : (oAQ a b c d e).ty = d := (rfl)
@[simp] theorem oAQg (a b c d e : Nat) : (oAQ a b c d e).g = some (e, false) := (rfl)
def oAR (a : Nat) (b : Nat) (c : Nat) (d : Int) (e : Nat) (f : Nat) : QOp := ⟨some a, .binOp .sub b (.tmp c) (.const (.int .i64 d)) e, f, none⟩
@[simp] theorem oARdst (a : Nat) (b : Nat) (c : Nat) (d : Int) (e : Nat) (f : Nat) : (oAR a b c d e f).dst = some a := (rfl)
@[simp] theorem oARop (a : Nat) (b : Nat) (c : Nat) (d : Int) (e : Nat) (f : Nat) : (oAR a b c d e f).op = .binOp .sub b (.tmp c) (.const (.int .i64 d)) e := (rfl)
@[simp] theorem oARty (a : Nat) (b : Nat) (c : Nat) (d : Int) (e : Nat) (f : Nat) : (oAR a b c d e f).ty = f := (rfl)
@[simp] theorem oARg (a : Nat) (b : Nat) (c : Nat) (d : Int) (e : Nat) (f : Nat) : (oAR a b c d e f).g = none := (rfl)
def oAS (a : Nat) (b : Nat) (c : Nat) (d : Int) (e : Nat) (f : Nat) (g : Nat) : QOp := ⟨some a, .binOp .gtr b (.tmp c) (.const (.int .u8 d)) e, f, some (g, false)⟩
@[simp] theorem oASdst (a : Nat) (b : Nat) (c : Nat) (d : Int) (e : Nat) (f : Nat) (g : Nat) : (oAS a b c d e f g).dst = some a := (rfl)
@[simp] theorem oASop (a : Nat) (b : Nat) (c : Nat) (d : Int) (e : Nat) (f : Nat) (g : Nat) : (oAS a b c d e f g).op = .binOp .gtr b (.tmp c) (.const (.int .u8 d)) e := (rfl)
@[simp] theorem oASty (a : Nat) (b : Nat) (c : Nat) (d : Int) (e : Nat) (f : Nat) (g : Nat) : (oAS a b c d e f g).ty = f := (rfl)
@[simp] theorem oASg (a : Nat) (b : Nat) (c : Nat) (d : Int) (e : Nat) (f : Nat) (g : Nat) : (oAS a b c d e f g).g = some (g, false) := (rfl)
def oAT (a : Nat) (b : Nat) (c : Nat) (d : Int) (e : Nat) (f : Nat) (g : Nat) : QOp := ⟨some a, .binOp .leq b (.tmp c) (.const (.int .u8 d)) e, f, some (g, true)⟩
@[simp] theorem oATdst (a : Nat) (b : Nat) (c : Nat) (d : Int) (e : Nat) (f : Nat) (g : Nat) : (oAT a b c d e f g).dst = some a := (rfl)
@[simp] theorem oATop (a : Nat) (b : Nat) (c : Nat) (d : Int) (e : Nat) (f : Nat) (g : Nat) : (oAT a b c d e f g).op = .binOp .leq b (.tmp c) (.const (.int .u8 d)) e := (rfl)
@[simp] theorem oATty (a : Nat) (b : Nat) (c : Nat) (d : Int) (e : Nat) (f : Nat) (g : Nat) : (oAT a b c d e f g).ty = f := (rfl)
@[simp] theorem oATg (a : Nat) (b : Nat) (c : Nat) (d : Int) (e : Nat) (f : Nat) (g : Nat) : (oAT a b c d e f g).g = some (g, true) := (rfl)
def oAU (a b c d e : Nat) : QOp := ⟨some a, .call { callee := .builtin .len, args := #[.tmp b], argTypes := #[c] }, d, some (e, true)⟩
@[simp] theorem oAUdst (a b c d e : Nat) : (oAU a b c d e).dst = some a := (rfl)
@[simp] theorem oAUop (a b c d e : Nat) : (oAU a b c d e).op = .call { callee := .builtin .len, args := #[.tmp b], argTypes := #[c] } := (rfl)
@[simp] theorem oAUty (a b c d e : Nat) : (oAU a b c d e).ty = d := (rfl)
@[simp] theorem oAUg (a b c d e : Nat) : (oAU a b c d e).g = some (e, true) := (rfl)
def oAV (a b c d e f g h : Nat) : QOp := ⟨some a, .call { callee := .value (.func b), args := #[.tmp c, .func d], argTypes := #[e, f] }, g, some (h, true)⟩
@[simp] theorem oAVdst (a b c d e f g h : Nat) : (oAV a b c d e f g h).dst = some a := (rfl)
@[simp] theorem oAVop (a b c d e f g h : Nat) : (oAV a b c d e f g h).op = .call { callee := .value (.func b), args := #[.tmp c, .func d], argTypes := #[e, f] } := (rfl)
@[simp] theorem oAVty (a b c d e f g h : Nat) : (oAV a b c d e f g h).ty = g := (rfl)
@[simp] theorem oAVg (a b c d e f g h : Nat) : (oAV a b c d e f g h).g = some (h, true) := (rfl)
def oAW (a : Nat) (b : Nat) (c : Nat) (d : Int) (e : Int) (f : Nat) (g : Nat) (h : Nat) (i : Nat) : QOp := ⟨some a, .call { callee := .value (.func b), args := #[.tmp c, .const (.int .i64 d), .const (.int .i64 e)], argTypes := #[f, g, h] }, i, none⟩
@[simp] theorem oAWdst (a : Nat) (b : Nat) (c : Nat) (d : Int) (e : Int) (f : Nat) (g : Nat) (h : Nat) (i : Nat) : (oAW a b c d e f g h i).dst = some a := (rfl)
@[simp] theorem oAWop (a : Nat) (b : Nat) (c : Nat) (d : Int) (e : Int) (f : Nat) (g : Nat) (h : Nat) (i : Nat) : (oAW a b c d e f g h i).op = .call { callee := .value (.func b), args := #[.tmp c, .const (.int .i64 d), .const (.int .i64 e)], argTypes := #[f, g, h] } := (rfl)
@[simp] theorem oAWty (a : Nat) (b : Nat) (c : Nat) (d : Int) (e : Int) (f : Nat) (g : Nat) (h : Nat) (i : Nat) : (oAW a b c d e f g h i).ty = i := (rfl)
@[simp] theorem oAWg (a : Nat) (b : Nat) (c : Nat) (d : Int) (e : Int) (f : Nat) (g : Nat) (h : Nat) (i : Nat) : (oAW a b c d e f g h i).g = none := (rfl)
def oAX (a b c d e f g h i j k l m n o p q r s t : Nat) : QOp := ⟨some a, .buildSlice b c #[(d, .const (.string { data := #[109, 107, 100, 105, 114, 32, 97, 32, 55] })), (e, .const (.string { data := #[109, 107, 100, 105, 114, 32, 108, 105, 98, 32, 55] })), (f, .const (.string { data := #[109, 107, 100, 105, 114, 32, 100, 111, 99, 32, 55] })), (g, .const (.string { data := #[109, 107, 100, 105, 114, 32, 97, 47, 98, 32, 53] })), (h, .const (.string { data := #[99, 111, 112, 121, 32, 108, 105, 98, 47, 120, 46, 99, 32, 115, 114, 99] })), (i, .const (.string { data := #[99, 111, 112, 121, 32, 97, 47, 99, 32, 115, 114, 99] })), (j, .const (.string { data := #[119, 114, 105, 116, 101, 32, 100, 111, 99, 47, 121, 32, 52, 32, 116, 101, 120, 116, 32, 111, 102, 32, 105, 116] })), (k, .const (.string { data := #[119, 114, 105, 116, 101, 32, 97, 47, 99, 32, 54, 32, 111, 110, 101] })), (l, .const (.string { data := #[108, 105, 110, 107, 32, 98, 32, 97, 47, 99] })), (m, .const (.string { data := #[109, 111, 118, 101, 32, 97, 47, 99, 32, 97, 47, 100] })), (n, .const (.string { data := #[100, 114, 111, 112, 32, 97, 47, 99] })), (o, .const (.string { data := #[109, 111, 100, 101, 32, 97, 47, 99, 32, 49] })), (p, .const (.string { data := #[115, 119, 97, 112, 32, 97, 47, 99, 32, 111, 110, 101, 32, 116, 119, 111] })), (q, .const (.string { data := #[112, 97, 116, 99, 104, 32, 108, 105, 98, 47, 120, 46, 99, 32, 102, 105, 120] })), (r, .const (.string { data := #[119, 114, 105, 116, 101, 32, 98, 32, 52, 32, 98] })), (s, .const (.string { data := #[109, 107, 100, 105, 114, 32, 36, 123, 100, 105, 114, 125, 32, 55] }))], t, none⟩
@[simp] theorem oAXdst (a b c d e f g h i j k l m n o p q r s t : Nat) : (oAX a b c d e f g h i j k l m n o p q r s t).dst = some a := (rfl)
@[simp] theorem oAXop (a b c d e f g h i j k l m n o p q r s t : Nat) : (oAX a b c d e f g h i j k l m n o p q r s t).op = .buildSlice b c #[(d, .const (.string { data := #[109, 107, 100, 105, 114, 32, 97, 32, 55] })), (e, .const (.string { data := #[109, 107, 100, 105, 114, 32, 108, 105, 98, 32, 55] })), (f, .const (.string { data := #[109, 107, 100, 105, 114, 32, 100, 111, 99, 32, 55] })), (g, .const (.string { data := #[109, 107, 100, 105, 114, 32, 97, 47, 98, 32, 53] })), (h, .const (.string { data := #[99, 111, 112, 121, 32, 108, 105, 98, 47, 120, 46, 99, 32, 115, 114, 99] })), (i, .const (.string { data := #[99, 111, 112, 121, 32, 97, 47, 99, 32, 115, 114, 99] })), (j, .const (.string { data := #[119, 114, 105, 116, 101, 32, 100, 111, 99, 47, 121, 32, 52, 32, 116, 101, 120, 116, 32, 111, 102, 32, 105, 116] })), (k, .const (.string { data := #[119, 114, 105, 116, 101, 32, 97, 47, 99, 32, 54, 32, 111, 110, 101] })), (l, .const (.string { data := #[108, 105, 110, 107, 32, 98, 32, 97, 47, 99] })), (m, .const (.string { data := #[109, 111, 118, 101, 32, 97, 47, 99, 32, 97, 47, 100] })), (n, .const (.string { data := #[100, 114, 111, 112, 32, 97, 47, 99] })), (o, .const (.string { data := #[109, 111, 100, 101, 32, 97, 47, 99, 32, 49] })), (p, .const (.string { data := #[115, 119, 97, 112, 32, 97, 47, 99, 32, 111, 110, 101, 32, 116, 119, 111] })), (q, .const (.string { data := #[112, 97, 116, 99, 104, 32, 108, 105, 98, 47, 120, 46, 99, 32, 102, 105, 120] })), (r, .const (.string { data := #[119, 114, 105, 116, 101, 32, 98, 32, 52, 32, 98] })), (s, .const (.string { data := #[109, 107, 100, 105, 114, 32, 36, 123, 100, 105, 114, 125, 32, 55] }))] := (rfl)
@[simp] theorem oAXty (a b c d e f g h i j k l m n o p q r s t : Nat) : (oAX a b c d e f g h i j k l m n o p q r s t).ty = t := (rfl)
@[simp] theorem oAXg (a b c d e f g h i j k l m n o p q r s t : Nat) : (oAX a b c d e f g h i j k l m n o p q r s t).g = none := (rfl)
def oAY (a b c d e f g h i j k l m n o p q r s t : Nat) : QOp := ⟨some a, .buildSlice b c #[(d, .const (.string { data := #[97] })), (e, .const (.string { data := #[42] })), (f, .const (.string { data := #[42, 42] })), (g, .const (.string { data := #[97, 47, 42] })), (h, .const (.string { data := #[97, 47, 42, 42] })), (i, .const (.string { data := #[42, 42, 47, 99] })), (j, .const (.string { data := #[108, 105, 98, 47, 42, 46, 99] })), (k, .const (.string { data := #[108, 105, 98, 47, 63] })), (l, .const (.string { data := #[91, 97, 98, 93] })), (m, .const (.string { data := #[91, 33, 97, 93, 47, 42] })), (n, .const (.string { data := #[98, 42] })), (o, .const (.string { data := #[42, 42, 47, 98, 47, 42, 42] })), (p, .const (.string { data := #[42, 47, 42] })), (q, .const (.string { data := #[100, 111, 99, 47, 42, 42] })), (r, .const (.string { data := #[120, 42, 121, 42, 122] })), (s, .const (.string { data := #[91, 97, 45, 93] }))], t, none⟩
@[simp] theorem oAYdst (a b c d e f g h i j k l m n o p q r s t : Nat) : (oAY a b c d e f g h i j k l m n o p q r s t).dst = some a := (rfl)
@[simp] theorem oAYop (a b c d e f g h i j k l m n o p q r s t : Nat) : (oAY a b c d e f g h i j k l m n o p q r s t).op = .buildSlice b c #[(d, .const (.string { data := #[97] })), (e, .const (.string { data := #[42] })), (f, .const (.string { data := #[42, 42] })), (g, .const (.string { data := #[97, 47, 42] })), (h, .const (.string { data := #[97, 47, 42, 42] })), (i, .const (.string { data := #[42, 42, 47, 99] })), (j, .const (.string { data := #[108, 105, 98, 47, 42, 46, 99] })), (k, .const (.string { data := #[108, 105, 98, 47, 63] })), (l, .const (.string { data := #[91, 97, 98, 93] })), (m, .const (.string { data := #[91, 33, 97, 93, 47, 42] })), (n, .const (.string { data := #[98, 42] })), (o, .const (.string { data := #[42, 42, 47, 98, 47, 42, 42] })), (p, .const (.string { data := #[42, 47, 42] })), (q, .const (.string { data := #[100, 111, 99, 47, 42, 42] })), (r, .const (.string { data := #[120, 42, 121, 42, 122] })), (s, .const (.string { data := #[91, 97, 45, 93] }))] := (rfl)
@[simp] theorem oAYty (a b c d e f g h i j k l m n o p q r s t : Nat) : (oAY a b c d e f g h i j k l m n o p q r s t).ty = t := (rfl)
@[simp] theorem oAYg (a b c d e f g h i j k l m n o p q r s t : Nat) : (oAY a b c d e f g h i j k l m n o p q r s t).g = none := (rfl)
theorem run_is {q r : QCode} (h : q = r) (c : Ctx) (e : Env) (ks : List Fr) : Run c q e ks = Run c r e ks := h ▸ rfl
abbrev Fn5 : FuncId := 5
def q5c0 : QCode := .seq (.ops [oC 50 29 3 29, oR 6 29 0, oM 29 6 50 0]) (.seq (.ops [⟨some 51, .buildSlice 27 1 #[(0, .const (.string { data := #[36, 123, 110, 97, 109, 101, 125, 32, 36, 123, 118, 101, 114, 115, 105, 111, 110, 125] }))], 27, none⟩, oF 52 29 6 7 0, oM 27 52 51 0]) (.seq (.ops [oC 53 29 6 29, oH 54 15 53 29 27, oB 7 54 27]) (.seq (.draw [] [⟨some 55, .move (.tmp 5), 27, none⟩, ⟨some 56, .call { callee := .builtin .len, args := #[.tmp 55], argTypes := #[27] }, 3, none⟩, ⟨some 57, .fieldAddr 29 (.tmp 3) 7, 0, none⟩, ⟨some 58, .load 27 (.tmp 57), 27, none⟩, ⟨some 59, .call { callee := .builtin .len, args := #[.tmp 58], argTypes := #[27] }, 3, none⟩, ⟨some 60, .binOp .eql 3 (.tmp 56) (.tmp 59) 3, 4, none⟩, ⟨some 61, .move (.tmp 60), 4, none⟩, ⟨some 62, .move (.tmp 7), 27, some (61, true)⟩, ⟨some 63, .call { callee := .builtin .len, args := #[.tmp 62], argTypes := #[27] }, 3, some (61, true)⟩, ⟨some 64, .binOp .eql 3 (.tmp 63) (.const (.int .i64 1)) 3, 4, some (61, true)⟩, ⟨some 65, .pick (.tmp 61) (.tmp 64) (.const (.bool false)), 4, none⟩, ⟨some 66, .move (.tmp 65), 4, none⟩, ⟨some 67, .move (.tmp 7), 27, some (66, true)⟩, ⟨some 68, .indexAddr 27 (.tmp 67) (.const (.int .i64 0)), 0, some (66, true)⟩, ⟨some 69, .load 9 (.tmp 68), 9, some (66, true)⟩, ⟨some 70, .fieldAddr 29 (.tmp 3) 0, 0, some (66, true)⟩, ⟨some 71, .load 9 (.tmp 70), 9, some (66, true)⟩, ⟨some 72, .binOp .add 9 (.tmp 71) (.const (.string { data := #[32] })) 9, 9, some (66, true)⟩, ⟨some 73, .fieldAddr 29 (.tmp 3) 1, 0, some (66, true)⟩, ⟨some 74, .load 9 (.tmp 73), 9, some (66, true)⟩, ⟨some 75, .binOp .add 9 (.tmp 72) (.tmp 74) 9, 9, some (66, true)⟩] [⟨some 76, .binOp .eql 9 (.tmp 69) (.tmp 75) 9, 4, some (66, true)⟩, ⟨some 77, .pick (.tmp 66) (.tmp 76) (.const (.bool false)), 4, none⟩, ⟨some 2, .assign (.tmp 77), 4, none⟩]) (.ret))))
@[simp] theorem q5c0R : type_of% (run_is q5c0.eq_1) := run_is rfl
def q5c1 : QCode := .seq (.ops [oA 11 0 22, oH 12 14 11 22 29, oR 3 29 0, oM 29 3 12 0]) (.seq (.ops [oC 13 29 3 29, oH 14 12 13 29 3, oB 4 14 3]) (.seq (.ops [oC 15 29 3 29, oH 16 15 15 29 27, oB 5 16 27]) (.seq (.seq (.ops [oA 17 4 3, oC 18 29 3 29, oH 19 13 18 29 3, ⟨some 20, .binOp .neq 3 (.tmp 17) (.tmp 19) 3, 4, none⟩, oA 21 20 4, oI 22 5 27 21, oAE 23 29 3 29 21, oAM 24 17 23 29 27 21, ⟨some 25, .call { callee := .value (.func 16), args := #[.tmp 22, .tmp 24], argTypes := #[27, 27] }, 4, some (21, false)⟩, ⟨some 26, .unOp .not 4 (.tmp 25), 4, some (21, false)⟩, oN 27 21 26 4, oA 28 27 4, oI 29 4 3 28, ⟨some 30, .binOp .neq 3 (.tmp 29) (.const (.int .i64 0)) 3, 4, some (28, false)⟩, oN 31 28 30 4]) (.cond (.tmp 31) (.seq (.ops [oA 32 4 3, oC 33 29 3 29, oH 34 13 33 29 3, ⟨some 35, .binOp .eql 3 (.tmp 32) (.tmp 34) 3, 4, none⟩, oA 36 35 4, oO 37 5 27 36, oAA 38 29 3 29 36, oAK 39 17 38 29 27 36, ⟨some 40, .call { callee := .value (.func 16), args := #[.tmp 37, .tmp 39], argTypes := #[27, 27] }, 4, some (36, true)⟩, oP 41 36 40 4, oA 42 41 4, oO 43 4 3 42, ⟨some 44, .binOp .geq 3 (.tmp 43) (.const (.int .i64 0)) 3, 4, some (42, true)⟩, oP 45 42 44 4, oA 46 45 4, oO 47 4 3 46, ⟨some 48, .binOp .leq 3 (.tmp 47) (.const (.int .i64 5)) 3, 4, some (46, true)⟩, oP 49 46 48 4, oB 2 49 4]) (.ret)) (.skip))) (q5c0))))
@[simp] theorem q5c1R : type_of% (run_is q5c1.eq_1) := run_is rfl
@[simp] def q5 : QFn := ⟨78, [(.tmp 2, 4)], .seq (.ops [oD 2 4]) (.seq (.seq (.ops [oA 8 0 22, oE 9 8 22 3, oAI 10 3 9 1048576 3 4]) (.cond (.tmp 10) (.seq (.ops [oAB 2 4]) (.ret)) (.skip))) (q5c1))⟩
theorem Cv5 : convF Tryz.f5 = some q5 := by kernel_rfl
abbrev Fn12 : FuncId := 12
def q12c0 : QCode := .seq (.ops [oC 11 29 1 29, oH 12 37 11 29 61, oA 10 12 61, oQ 13 10 0 27, oQ 14 10 1 3, oB 3 13 27, oB 4 14 3]) (.seq (.ops [oA 15 4 3, oB 2 15 3]) (.ret))
@[simp] theorem q12c0R : type_of% (run_is q12c0.eq_1) := run_is rfl
def q12c1 : QCode := .seq (.seq (.ops [oC 8 29 1 29, oH 9 36 8 29 4]) (.cond (.tmp 9) (.seq (.ops [oG 2 2 3]) (.ret)) (.skip))) (q12c0)
@[simp] theorem q12c1R : type_of% (run_is q12c1.eq_1) := run_is rfl
@[simp] def q12 : QFn := ⟨16, [(.tmp 2, 3)], .seq (.ops [oY 1 29 0 0, oG 2 0 3]) (.seq (.seq (.ops [oC 5 29 1 29, oH 6 35 5 29 4, oT 7 4 6 4]) (.cond (.tmp 7) (.seq (.ops [oG 2 1 3]) (.ret)) (.skip))) (q12c1))⟩
theorem Cv12 : convF Tryz.f12 = some q12 := by kernel_rfl
abbrev Fn13 : FuncId := 13
def q13c0 : QCode := .ops [oA 19 3 3, oJ 20 3 19 1 3 3, oB 3 20 3]
@[simp] theorem q13c0R : type_of% (run_is q13c0.eq_1) := run_is rfl
def q13c1 : QCode := .seq (.block 1 (.seq (.draw [] [⟨some 22, .load 29 (.tmp 1), 29, none⟩, ⟨some 23, .call { callee := .value (.func 41), args := #[.tmp 22], argTypes := #[29] }, 23, none⟩, ⟨some 24, .fieldAddr 29 (.tmp 1) 2, 0, none⟩, ⟨some 25, .load 23 (.tmp 24), 23, none⟩, ⟨some 26, .move (.tmp 3), 3, none⟩, ⟨some 27, .indexAddr 23 (.tmp 25) (.tmp 26), 0, none⟩, ⟨some 28, .fieldAddr 33 (.tmp 27) 0, 0, none⟩, ⟨some 29, .load 9 (.tmp 28), 9, none⟩, ⟨some 30, .binOp .add 9 (.const (.string { data := #[36, 123] })) (.tmp 29) 9, 9, none⟩, ⟨some 31, .binOp .add 9 (.tmp 30) (.const (.string { data := #[125] })) 9, 9, none⟩, ⟨some 32, .buildSlice 27 0 #[], 27, none⟩, ⟨some 33, .call { callee := .value (.func 40), args := #[.tmp 23, .tmp 31, .tmp 32], argTypes := #[23, 9, 27] }, 63, none⟩, ⟨some 21, .move (.tmp 33), 63, none⟩, ⟨some 34, .extract (.tmp 21) 0, 9, none⟩, ⟨some 35, .extract (.tmp 21) 1, 3, none⟩, ⟨some 4, .assign (.tmp 34), 9, none⟩] [⟨some 5, .assign (.tmp 35), 3, none⟩]) (.seq (.ops [oA 36 5 3, oAP 37 3 36 0 3 4]) (.cond (.tmp 37) (.seq (.ops [oA 38 5 3, oB 2 38 3]) (.ret)) (.skip))))) (q13c0)
@[simp] theorem q13c1R : type_of% (run_is q13c1.eq_1) := run_is rfl
def q13l0 : QCode := .seq (.seq (.ops [oA 14 3 3, oF 15 29 1 2 0, oC 16 23 15 23, oE 17 16 23 3, oK 18 3 14 17 3 4]) (.cond (.tmp 18) (.skip) (.exit 0))) (q13c1)
@[simp] theorem q13l0R : type_of% (run_is q13l0.eq_1) := run_is rfl
def q13c2 : QCode := .ops [oA 44 6 3, oJ 45 3 44 1 3 3, oB 6 45 3]
@[simp] theorem q13c2R : type_of% (run_is q13c2.eq_1) := run_is rfl
def q13c3 : QCode := .seq (.block 3 (.seq (.draw [] [⟨some 47, .load 29 (.tmp 1), 29, none⟩, ⟨some 48, .call { callee := .value (.func 41), args := #[.tmp 47], argTypes := #[29] }, 23, none⟩, ⟨some 49, .fieldAddr 29 (.tmp 1) 7, 0, none⟩, ⟨some 50, .load 27 (.tmp 49), 27, none⟩, ⟨some 51, .move (.tmp 6), 3, none⟩, ⟨some 52, .indexAddr 27 (.tmp 50) (.tmp 51), 0, none⟩, ⟨some 53, .load 9 (.tmp 52), 9, none⟩, ⟨some 54, .buildSlice 27 0 #[], 27, none⟩, ⟨some 55, .call { callee := .value (.func 40), args := #[.tmp 48, .tmp 53, .tmp 54], argTypes := #[23, 9, 27] }, 63, none⟩, ⟨some 46, .move (.tmp 55), 63, none⟩, ⟨some 56, .extract (.tmp 46) 0, 9, none⟩, ⟨some 57, .extract (.tmp 46) 1, 3, none⟩, ⟨some 7, .assign (.tmp 56), 9, none⟩] [⟨some 8, .assign (.tmp 57), 3, none⟩]) (.seq (.ops [oA 58 8 3, oAP 59 3 58 0 3 4]) (.cond (.tmp 59) (.seq (.ops [oA 60 8 3, oB 2 60 3]) (.ret)) (.skip))))) (q13c2)
@[simp] theorem q13c3R : type_of% (run_is q13c3.eq_1) := run_is rfl
def q13l1 : QCode := .seq (.seq (.ops [oA 39 6 3, oF 40 29 1 7 0, oC 41 27 40 27, oE 42 41 27 3, oK 43 3 39 42 3 4]) (.cond (.tmp 43) (.skip) (.exit 2))) (q13c3)
@[simp] theorem q13l1R : type_of% (run_is q13l1.eq_1) := run_is rfl
def q13c4 : QCode := .seq (.ops [oG 2 0 3]) (.ret)
@[simp] theorem q13c4R : type_of% (run_is q13c4.eq_1) := run_is rfl
def q13c5 : QCode := .seq (.seq (.ops [oG 6 0 3]) (.block 2 (.loop q13l1))) (q13c4)
@[simp] theorem q13c5R : type_of% (run_is q13c5.eq_1) := run_is rfl
def q13c6 : QCode := .seq (.seq (.ops [oG 3 0 3]) (.block 0 (.loop q13l0))) (q13c5)
@[simp] theorem q13c6R : type_of% (run_is q13c6.eq_1) := run_is rfl
def q13c7 : QCode := .seq (.seq (.ops [oC 12 29 1 29, oH 13 39 12 29 4]) (.cond (.tmp 13) (.seq (.ops [oG 2 2 3]) (.ret)) (.skip))) (q13c6)
@[simp] theorem q13c7R : type_of% (run_is q13c7.eq_1) := run_is rfl
@[simp] def q13 : QFn := ⟨61, [(.tmp 2, 3)], .seq (.ops [oY 1 29 0 0, oG 2 0 3]) (.seq (.seq (.ops [oC 9 29 1 29, oH 10 38 9 29 4, oT 11 4 10 4]) (.cond (.tmp 11) (.seq (.ops [oG 2 1 3]) (.ret)) (.skip))) (q13c7))⟩
theorem Cv13 : convF Tryz.f13 = some q13 := by kernel_rfl
abbrev Fn14 : FuncId := 14
@[simp] def q14 : QFn := ⟨6, [(.cell 2 29, 29)], .seq (.ops [oR 2 29 0]) (.seq (.ops [oA 3 0 22, oH 4 34 3 22 58, oH 5 33 4 58 29, oM 29 2 5 0]) (.ret))⟩
theorem Cv14 : convF Tryz.f14 = some q14 := by kernel_rfl
abbrev Fn15 : FuncId := 15
def q15c0 : QCode := .seq (.ops [oC 9 29 1 29, oH 10 37 9 29 61, oA 8 10 61, oQ 11 8 0 27, oQ 12 8 1 3, oB 3 11 27, oB 4 12 3]) (.seq (.ops [oA 13 3 27, oB 2 13 27]) (.ret))
@[simp] theorem q15c0R : type_of% (run_is q15c0.eq_1) := run_is rfl
@[simp] def q15 : QFn := ⟨14, [(.tmp 2, 27)], .seq (.ops [oY 1 29 0 0, oX 2 27]) (.seq (.seq (.ops [oC 5 29 1 29, oH 6 12 5 29 3, oAP 7 3 6 0 3 4]) (.cond (.tmp 7) (.seq (.ops [oX 2 27]) (.ret)) (.skip))) (q15c0))⟩
theorem Cv15 : convF Tryz.f15 = some q15 := by kernel_rfl
abbrev Fn16 : FuncId := 16
def q16c0 : QCode := .ops [oA 15 5 3, oJ 16 3 15 1 3 3, oB 5 16 3]
@[simp] theorem q16c0R : type_of% (run_is q16c0.eq_1) := run_is rfl
def q16c1 : QCode := .seq (.block 1 (.seq (.draw [] [⟨some 17, .move (.tmp 0), 27, none⟩, ⟨some 18, .move (.tmp 5), 3, none⟩, ⟨some 19, .indexAddr 27 (.tmp 17) (.tmp 18), 0, none⟩, ⟨some 20, .load 9 (.tmp 19), 9, none⟩, ⟨some 21, .move (.tmp 1), 27, none⟩, ⟨some 22, .move (.tmp 5), 3, none⟩, ⟨some 23, .indexAddr 27 (.tmp 21) (.tmp 22), 0, none⟩, ⟨some 24, .load 9 (.tmp 23), 9, none⟩] [⟨some 25, .binOp .neq 9 (.tmp 20) (.tmp 24) 9, 4, none⟩]) (.cond (.tmp 25) (.seq (.ops [oD 4 4]) (.ret)) (.skip)))) (q16c0)
@[simp] theorem q16c1R : type_of% (run_is q16c1.eq_1) := run_is rfl
def q16l0 : QCode := .seq (.seq (.ops [oA 11 5 3, oA 12 0 27, oE 13 12 27 3, oK 14 3 11 13 3 4]) (.cond (.tmp 14) (.skip) (.exit 0))) (q16c1)
@[simp] theorem q16l0R : type_of% (run_is q16l0.eq_1) := run_is rfl
def q16c2 : QCode := .seq (.ops [oAB 4 4]) (.ret)
@[simp] theorem q16c2R : type_of% (run_is q16c2.eq_1) := run_is rfl
def q16c3 : QCode := .seq (.seq (.ops [oG 5 0 3]) (.block 0 (.loop q16l0))) (q16c2)
@[simp] theorem q16c3R : type_of% (run_is q16c3.eq_1) := run_is rfl
@[simp] def q16 : QFn := ⟨26, [(.tmp 4, 4)], .seq (.ops [oD 4 4]) (.seq (.seq (.ops [oA 6 0 27, oE 7 6 27 3, oA 8 1 27, oE 9 8 27 3, ⟨some 10, .binOp .neq 3 (.tmp 7) (.tmp 9) 3, 4, none⟩]) (.cond (.tmp 10) (.seq (.ops [oD 4 4]) (.ret)) (.skip))) (q16c3))⟩
theorem Cv16 : convF Tryz.f16 = some q16 := by kernel_rfl
abbrev Fn17 : FuncId := 17
def q17c0 : QCode := .ops [oA 17 4 3, oJ 18 3 17 1 3 3, oB 4 18 3]
@[simp] theorem q17c0R : type_of% (run_is q17c0.eq_1) := run_is rfl
def q17c1 : QCode := .seq (.block 1 (.seq (.draw [] [⟨some 20, .load 29 (.tmp 1), 29, none⟩, ⟨some 21, .call { callee := .value (.func 41), args := #[.tmp 20], argTypes := #[29] }, 23, none⟩, ⟨some 22, .fieldAddr 29 (.tmp 1) 7, 0, none⟩, ⟨some 23, .load 27 (.tmp 22), 27, none⟩, ⟨some 24, .move (.tmp 4), 3, none⟩, ⟨some 25, .indexAddr 27 (.tmp 23) (.tmp 24), 0, none⟩, ⟨some 26, .load 9 (.tmp 25), 9, none⟩, ⟨some 27, .buildSlice 27 0 #[], 27, none⟩, ⟨some 28, .call { callee := .value (.func 40), args := #[.tmp 21, .tmp 26, .tmp 27], argTypes := #[23, 9, 27] }, 63, none⟩, ⟨some 19, .move (.tmp 28), 63, none⟩, ⟨some 29, .extract (.tmp 19) 0, 9, none⟩, ⟨some 30, .extract (.tmp 19) 1, 3, none⟩, ⟨some 5, .assign (.tmp 29), 9, none⟩] [⟨some 6, .assign (.tmp 30), 3, none⟩]) (.ops [oA 31 3 27, oA 32 5 9, oZ 33 27 1 0 32 27, oV 34 31 33 27 27 27, oB 3 34 27]))) (q17c0)
@[simp] theorem q17c1R : type_of% (run_is q17c1.eq_1) := run_is rfl
def q17l0 : QCode := .seq (.seq (.ops [oA 12 4 3, oF 13 29 1 7 0, oC 14 27 13 27, oE 15 14 27 3, oK 16 3 12 15 3 4]) (.cond (.tmp 16) (.skip) (.exit 0))) (q17c1)
@[simp] theorem q17l0R : type_of% (run_is q17l0.eq_1) := run_is rfl
def q17c2 : QCode := .seq (.ops [oA 35 3 27, oB 2 35 27]) (.ret)
@[simp] theorem q17c2R : type_of% (run_is q17c2.eq_1) := run_is rfl
def q17c3 : QCode := .seq (.seq (.ops [oG 4 0 3]) (.block 0 (.loop q17l0))) (q17c2)
@[simp] theorem q17c3R : type_of% (run_is q17c3.eq_1) := run_is rfl
@[simp] def q17 : QFn := ⟨36, [(.tmp 2, 27)], .seq (.ops [oY 1 29 0 0, oX 2 27]) (.seq (.ops [⟨some 7, .buildSlice 27 0 #[], 27, none⟩, oB 3 7 27]) (.seq (.seq (.ops [oC 8 29 1 29, oH 9 13 8 29 3, oAP 10 3 9 0 3 4]) (.cond (.tmp 10) (.seq (.ops [oA 11 3 27, oB 2 11 27]) (.ret)) (.skip))) (q17c3)))⟩
theorem Cv17 : convF Tryz.f17 = some q17 := by kernel_rfl
abbrev Fn33 : FuncId := 33
def q33c0 : QCode := .seq (.ops [oC 84 29 3 29, oM 29 2 84 0]) (.ret)
@[simp] theorem q33c0R : type_of% (run_is q33c0.eq_1) := run_is rfl
@[simp] def q33 : QFn := ⟨85, [(.cell 2 29, 29)], .seq (.ops [oR 2 29 0]) (.seq (.ops [oA 4 0 58, oA 5 0 58, ⟨some 6, .buildSlice 27 3 #[(0, .const (.string { data := #[111, 110, 101] })), (1, .const (.string { data := #[116, 119, 111] })), (2, .const (.string { data := #[122, 105, 112] }))], 27, none⟩, oU 7 79 5 6 58 27 9, oU 8 78 4 7 58 9 29, oR 3 29 0, oM 29 3 8 0]) (.seq (.seq (.ops [oA 9 0 58, oAC 10 80 9 16 58 3 3]) (.block 0 (.seq (.ops [oW 12 3 10 0 3 4, oB 11 12 4]) (.cond (.tmp 11) (.ops [oA 13 0 58, ⟨some 14, .buildSlice 27 3 #[(0, .const (.string { data := #[] })), (1, .const (.string { data := #[57] })), (2, .const (.string { data := #[101, 108, 101, 118, 101, 110, 108, 101, 116, 116, 101] }))], 27, none⟩, oU 15 79 13 14 58 27 9, oF 16 29 3 0 0, oM 9 16 15 0]) (.seq (.ops [oW 18 3 10 1 3 4, oB 17 18 4]) (.cond (.tmp 17) (.ops [oA 19 0 58, oH 20 81 19 58 9, oF 21 29 3 1 0, oM 9 21 20 0]) (.seq (.ops [oW 23 3 10 2 3 4, oB 22 23 4]) (.cond (.tmp 22) (.draw [0, 0] [⟨some 24, .fieldAddr 29 (.tmp 3) 2, 0, none⟩, ⟨some 25, .load 23 (.tmp 24), 23, none⟩, ⟨some 26, .move (.tmp 0), 58, none⟩, ⟨some 27, .buildSlice 27 3 #[(0, .const (.string { data := #[110, 97, 109, 101] })), (1, .const (.string { data := #[100, 105, 114] })), (2, .const (.string { data := #[122] }))], 27, none⟩, ⟨some 28, .call { callee := .value (.func 79), args := #[.tmp 26, .tmp 27], argTypes := #[58, 27] }, 9, none⟩, ⟨some 29, .move (.tmp 0), 58, none⟩, ⟨some 30, .buildSlice 27 3 #[(0, .const (.string { data := #[36, 123, 122, 125] })), (1, .const (.string { data := #[113] })), (2, .const (.string { data := #[] }))], 27, none⟩, ⟨some 31, .call { callee := .value (.func 79), args := #[.tmp 29, .tmp 30], argTypes := #[58, 27] }, 9, none⟩, ⟨some 32, .build 33 #[(0, .tmp 28), (1, .tmp 31)], 33, none⟩, ⟨some 33, .buildSlice 23 1 #[(0, .tmp 32)], 23, none⟩] [⟨some 34, .call { callee := .builtin .append, args := #[.tmp 25, .tmp 33], argTypes := #[23, 23] }, 23, none⟩, ⟨some 35, .fieldAddr 29 (.tmp 3) 2, 0, none⟩, ⟨none, .store 23 (.tmp 35) (.tmp 34), 0, none⟩]) (.seq (.ops [oW 37 3 10 3 3 4, oB 36 37 4]) (.cond (.tmp 36) (.draw [0] [⟨some 38, .fieldAddr 29 (.tmp 3) 7, 0, none⟩, ⟨some 39, .load 27 (.tmp 38), 27, none⟩, ⟨some 40, .move (.tmp 0), 58, none⟩, ⟨some 41, .buildSlice 27 4 #[(0, .const (.string { data := #[36, 123, 110, 111, 110, 101, 125] })), (1, .const (.string { data := #[] })), (2, .const (.string { data := #[1] })), (3, .const (.string { data := #[100, 114, 111, 112, 32, 36, 123, 100, 105, 114, 125] }))], 27, none⟩, ⟨some 42, .call { callee := .value (.func 79), args := #[.tmp 40, .tmp 41], argTypes := #[58, 27] }, 9, none⟩, ⟨some 43, .buildSlice 27 1 #[(0, .tmp 42)], 27, none⟩] [⟨some 44, .call { callee := .builtin .append, args := #[.tmp 39, .tmp 43], argTypes := #[27, 27] }, 27, none⟩, ⟨some 45, .fieldAddr 29 (.tmp 3) 7, 0, none⟩, ⟨none, .store 27 (.tmp 45) (.tmp 44), 0, none⟩]) (.seq (.ops [oW 47 3 10 4 3 4, oB 46 47 4]) (.cond (.tmp 46) (.draw [0, 0] [⟨some 48, .fieldAddr 29 (.tmp 3) 4, 0, none⟩, ⟨some 49, .load 24 (.tmp 48), 24, none⟩, ⟨some 50, .move (.tmp 0), 58, none⟩, ⟨some 51, .call { callee := .value (.func 82), args := #[.tmp 50], argTypes := #[58] }, 94, none⟩, ⟨some 52, .move (.tmp 0), 58, none⟩, ⟨some 53, .call { callee := .value (.func 83), args := #[.tmp 52], argTypes := #[58] }, 94, none⟩, ⟨some 54, .buildSlice 24 2 #[(0, .tmp 51), (1, .tmp 53)], 24, none⟩] [⟨some 55, .call { callee := .builtin .append, args := #[.tmp 49, .tmp 54], argTypes := #[24, 24] }, 24, none⟩, ⟨some 56, .fieldAddr 29 (.tmp 3) 4, 0, none⟩, ⟨none, .store 24 (.tmp 56) (.tmp 55), 0, none⟩]) (.seq (.ops [oW 58 3 10 5 3 4, oB 57 58 4]) (.cond (.tmp 57) (.draw [0, 0] [⟨some 59, .fieldAddr 29 (.tmp 3) 5, 0, none⟩, ⟨some 60, .load 25 (.tmp 59), 25, none⟩, ⟨some 61, .move (.tmp 0), 58, none⟩, ⟨some 62, .buildSlice 27 2 #[(0, .const (.string { data := #[115, 114, 99] })), (1, .const (.string { data := #[] }))], 27, none⟩, ⟨some 63, .call { callee := .value (.func 79), args := #[.tmp 61, .tmp 62], argTypes := #[58, 27] }, 9, none⟩, ⟨some 64, .move (.tmp 0), 58, none⟩, ⟨some 65, .buildSlice 27 2 #[(0, .const (.string { data := #[] })), (1, .const (.string { data := #[48, 49, 50, 51, 52, 53, 54, 55, 56, 57, 97, 98, 99, 100, 101, 102] }))], 27, none⟩, ⟨some 66, .call { callee := .value (.func 79), args := #[.tmp 64, .tmp 65], argTypes := #[58, 27] }, 9, none⟩, ⟨some 67, .build 97 #[(0, .tmp 63), (1, .tmp 66)], 97, none⟩, ⟨some 68, .buildSlice 25 1 #[(0, .tmp 67)], 25, none⟩] [⟨some 69, .call { callee := .builtin .append, args := #[.tmp 60, .tmp 68], argTypes := #[25, 25] }, 25, none⟩, ⟨some 70, .fieldAddr 29 (.tmp 3) 5, 0, none⟩, ⟨none, .store 25 (.tmp 70) (.tmp 69), 0, none⟩]) (.seq (.ops [oW 72 3 10 6 3 4, oB 71 72 4]) (.cond (.tmp 71) (.draw [0, 0] [⟨some 73, .fieldAddr 29 (.tmp 3) 6, 0, none⟩, ⟨some 74, .load 26 (.tmp 73), 26, none⟩, ⟨some 75, .move (.tmp 0), 58, none⟩, ⟨some 76, .buildSlice 27 3 #[(0, .const (.string { data := #[111, 110, 101] })), (1, .const (.string { data := #[112] })), (2, .const (.string { data := #[] }))], 27, none⟩, ⟨some 77, .call { callee := .value (.func 79), args := #[.tmp 75, .tmp 76], argTypes := #[58, 27] }, 9, none⟩, ⟨some 78, .move (.tmp 0), 58, none⟩, ⟨some 79, .call { callee := .value (.func 84), args := #[.tmp 78], argTypes := #[58] }, 9, none⟩, ⟨some 80, .build 35 #[(0, .tmp 77), (1, .tmp 79)], 35, none⟩, ⟨some 81, .buildSlice 26 1 #[(0, .tmp 80)], 26, none⟩] [⟨some 82, .call { callee := .builtin .append, args := #[.tmp 74, .tmp 81], argTypes := #[26, 26] }, 26, none⟩, ⟨some 83, .fieldAddr 29 (.tmp 3) 6, 0, none⟩, ⟨none, .store 26 (.tmp 83) (.tmp 82), 0, none⟩]) (.skip))))))))))))))))) (q33c0)))⟩
theorem Cv33 : convF Tryz.f33 = some q33 := by kernel_rfl
abbrev Fn35 : FuncId := 35
def q35c0 : QCode := .seq (.ops [oF 36 29 1 2 0, oC 37 23 36 23, ⟨some 38, .call { callee := .value (.func 87), args := #[.tmp 37, .func 88], argTypes := #[23, 115] }, 4, none⟩, oA 39 38 4, oAD 40 29 1 3 0 39, oAA 41 24 40 24 39, oAV 42 89 41 90 24 117 4 39, oP 43 39 42 4, oA 44 43 4, oAD 45 29 1 4 0 44, oAA 46 24 45 24 44, oAV 47 89 46 90 24 117 4 44, oP 48 44 47 4, oA 49 48 4, oAD 50 29 1 5 0 49, oAA 51 25 50 25 49, oAV 52 91 51 92 25 119 4 49, oP 53 49 52 4, oA 54 53 4, oAD 55 29 1 6 0 54, oAA 56 26 55 26 54, oAV 57 93 56 94 26 121 4 54, oP 58 54 57 4, oA 59 58 4, oAD 60 29 1 7 0 59, oAA 61 27 60 27 59, oAV 62 95 61 96 27 54 4 59, oP 63 59 62 4, oB 2 63 4]) (.ret)
@[simp] theorem q35c0R : type_of% (run_is q35c0.eq_1) := run_is rfl
def q35c1 : QCode := .seq (.seq (.ops [oF 19 29 1 2 0, oC 20 23 19 23, oE 21 20 23 3, oF 22 29 1 3 0, oC 23 24 22 24, oE 24 23 24 3, oF 25 29 1 4 0, oC 26 24 25 24, oE 27 26 24 3, oF 28 29 1 5 0, oC 29 25 28 25, oE 30 29 25 3, oF 31 29 1 6 0, oC 32 26 31 26, oE 33 32 26 3, ⟨some 34, .call { callee := .builtin .max, args := #[.tmp 21, .tmp 24, .tmp 27, .tmp 30, .tmp 33], argTypes := #[3, 3, 3, 3, 3] }, 3, none⟩, oAI 35 3 34 6 3 4]) (.cond (.tmp 35) (.seq (.ops [oD 2 4]) (.ret)) (.skip))) (q35c0)
@[simp] theorem q35c1R : type_of% (run_is q35c1.eq_1) := run_is rfl
@[simp] def q35 : QFn := ⟨64, [(.tmp 2, 4)], .seq (.ops [oY 1 29 0 0, oD 2 4]) (.seq (.seq (.ops [oF 3 29 1 0 0, oC 4 9 3 9, oH 5 85 4 9 4, oT 6 4 5 4, oA 7 6 4, oAH 8 29 1 1 0 7, oAE 9 9 8 9 7, oAM 10 86 9 9 4 7, ⟨some 11, .unOp .not 4 (.tmp 10), 4, some (7, false)⟩, oN 12 7 11 4, oA 13 12 4, oAH 14 29 1 7 0 13, oAE 15 27 14 27 13, oAQ 16 15 27 3 13, ⟨some 17, .binOp .gtr 3 (.tmp 16) (.const (.int .i64 10)) 3, 4, some (13, false)⟩, oN 18 13 17 4]) (.cond (.tmp 18) (.seq (.ops [oD 2 4]) (.ret)) (.skip))) (q35c1))⟩
theorem Cv35 : convF Tryz.f35 = some q35 := by kernel_rfl
abbrev Fn36 : FuncId := 36
@[simp] def q36 : QFn := ⟨39, [(.tmp 2, 4)], .seq (.ops [oY 1 29 0 0, oD 2 4]) (.seq (.ops [⟨some 3, .assign (.func 97), 123, none⟩]) (.seq (.ops [⟨some 4, .assign (.func 98), 124, none⟩]) (.seq (.ops [⟨some 5, .assign (.func 99), 125, none⟩]) (.seq (.ops [oF 6 29 1 2 0, oC 7 23 6 23, oA 8 3 123, ⟨some 9, .buildSlice 27 2 #[(0, .const (.string { data := #[110, 97, 109, 101] })), (1, .const (.string { data := #[118, 101, 114, 115, 105, 111, 110] }))], 27, none⟩, ⟨some 10, .call { callee := .value (.func 100), args := #[.tmp 7, .tmp 8, .tmp 9], argTypes := #[23, 123, 27] }, 4, none⟩, oA 11 10 4, oAH 12 29 1 3 0 11, oAE 13 24 12 24 11, ⟨some 14, .call { callee := .value (.func 101), args := #[.tmp 13, .func 102, .const (.slice none 0 0)], argTypes := #[24, 95, 27] }, 4, some (11, false)⟩, oN 15 11 14 4, oA 16 15 4, oAH 17 29 1 4 0 16, oAE 18 24 17 24 16, oAH 19 29 1 0 0 16, oAE 20 9 19 9 16, ⟨some 21, .buildSlice 27 1 #[(0, .tmp 20)], 27, some (16, false)⟩, ⟨some 22, .call { callee := .value (.func 101), args := #[.tmp 18, .func 102, .tmp 21], argTypes := #[24, 95, 27] }, 4, some (16, false)⟩, oN 23 16 22 4, oA 24 23 4, oAH 25 29 1 5 0 24, oAE 26 25 25 25 24, oI 27 4 124 24, ⟨some 28, .call { callee := .value (.func 103), args := #[.tmp 26, .tmp 27, .const (.slice none 0 0)], argTypes := #[25, 124, 27] }, 4, some (24, false)⟩, oN 29 24 28 4, oA 30 29 4, oAH 31 29 1 6 0 30, oAE 32 26 31 26 30, oI 33 5 125 30, oAH 34 29 1 0 0 30, oAE 35 9 34 9 30, ⟨some 36, .buildSlice 27 1 #[(0, .tmp 35)], 27, some (30, false)⟩, ⟨some 37, .call { callee := .value (.func 104), args := #[.tmp 32, .tmp 33, .tmp 36], argTypes := #[26, 125, 27] }, 4, some (30, false)⟩, oN 38 30 37 4, oB 2 38 4]) (.ret)))))⟩
theorem Cv36 : convF Tryz.f36 = some q36 := by kernel_rfl
abbrev Fn37 : FuncId := 37
def q37c0 : QCode := .ops [oJ 34 3 18 1 3 3, oA 18 34 3]
@[simp] theorem q37c0R : type_of% (run_is q37c0.eq_1) := run_is rfl
def q37c1 : QCode := .seq (.block 1 (.seq (.ops [oS 20 23 16 18 0, oC 21 33 20 33, oR 6 33 0, oM 33 6 21 0]) (.seq (.ops [oA 23 4 23, oF 24 33 6 0 0, oC 25 9 24 9, ⟨some 26, .binOp .add 9 (.const (.string { data := #[36, 123] })) (.tmp 25) 9, 9, none⟩, ⟨some 27, .binOp .add 9 (.tmp 26) (.const (.string { data := #[125] })) 9, 9, none⟩, oU 28 106 23 27 23 9 63, oA 22 28 63, oQ 29 22 0 9, oQ 30 22 1 3, oB 7 29 9, oB 8 30 3]) (.seq (.ops [oA 31 8 3, oAP 32 3 31 0 3 4]) (.cond (.tmp 32) (.seq (.ops [oA 33 8 3, oX 2 27, oB 3 33 3]) (.ret)) (.skip)))))) (q37c0)
@[simp] theorem q37c1R : type_of% (run_is q37c1.eq_1) := run_is rfl
def q37l0 : QCode := .seq (.ops [oK 19 3 18 17 3 0]) (.seq (.cond (.tmp 19) (.skip) (.exit 0)) (q37c1))
@[simp] theorem q37l0R : type_of% (run_is q37l0.eq_1) := run_is rfl
def q37c2 : QCode := .ops [oA 51 9 27, oA 52 12 9, oZ 53 27 1 0 52 27, oV 54 51 53 27 27 27, oB 9 54 27]
@[simp] theorem q37c2R : type_of% (run_is q37c2.eq_1) := run_is rfl
def q37c3 : QCode := .ops [oJ 55 3 38 1 3 3, oA 38 55 3]
@[simp] theorem q37c3R : type_of% (run_is q37c3.eq_1) := run_is rfl
def q37c4 : QCode := .seq (.block 3 (.seq (.ops [oS 40 27 36 38 0, oC 41 9 40 9, oB 11 41 9]) (.seq (.ops [oA 43 4 23, oA 44 11 9, oU 45 106 43 44 23 9 63, oA 42 45 63, oQ 46 42 0 9, oQ 47 42 1 3, oB 12 46 9, oB 13 47 3]) (.seq (.seq (.ops [oA 48 13 3, oAP 49 3 48 0 3 4]) (.cond (.tmp 49) (.seq (.ops [oA 50 13 3, oX 2 27, oB 3 50 3]) (.ret)) (.skip))) (q37c2))))) (q37c3)
@[simp] theorem q37c4R : type_of% (run_is q37c4.eq_1) := run_is rfl
def q37l1 : QCode := .seq (.ops [oK 39 3 38 37 3 0]) (.seq (.cond (.tmp 39) (.skip) (.exit 2)) (q37c4))
@[simp] theorem q37l1R : type_of% (run_is q37l1.eq_1) := run_is rfl
def q37c5 : QCode := .seq (.ops [oA 56 9 27, oB 2 56 27, oG 3 0 3]) (.ret)
@[simp] theorem q37c5R : type_of% (run_is q37c5.eq_1) := run_is rfl
def q37c6 : QCode := .seq (.ops [oX 9 27]) (.seq (.seq (.ops [oF 35 29 1 7 0, oC 36 27 35 27, oE 37 36 27 3, oAF 38 0 3]) (.block 2 (.loop q37l1))) (q37c5))
@[simp] theorem q37c6R : type_of% (run_is q37c6.eq_1) := run_is rfl
@[simp] def q37 : QFn := ⟨57, [(.tmp 2, 27), (.tmp 3, 3)], .seq (.ops [oY 1 29 0 0, oX 2 27, oG 3 0 3]) (.seq (.ops [oC 14 29 1 29, oH 15 105 14 29 23, oB 4 15 23]) (.seq (.seq (.ops [oA 16 4 23, oE 17 16 23 3, oAF 18 0 3]) (.block 0 (.loop q37l0))) (q37c6)))⟩
theorem Cv37 : convF Tryz.f37 = some q37 := by kernel_rfl
abbrev Fn38 : FuncId := 38
def q38c0 : QCode := .ops [oA 12 3 3, oJ 13 3 12 1 3 3, oB 3 13 3]
@[simp] theorem q38c0R : type_of% (run_is q38c0.eq_1) := run_is rfl
def q38c1 : QCode := .seq (.block 1 (.seq (.ops [oF 14 29 1 5 0, oC 15 25 14 25, oA 16 3 3, oS 17 25 15 16 0, oF 18 97 17 0 0, oC 19 9 18 9, oH 20 107 19 9 4, oT 21 4 20 4, oA 22 21 4, oAH 23 29 1 5 0 22, oAE 24 25 23 25 22, oI 25 3 3 22, ⟨some 26, .indexAddr 25 (.tmp 24) (.tmp 25), 0, some (22, false)⟩, oAH 27 97 26 1 0 22, oAE 28 9 27 9 22, oAM 29 108 28 9 4 22, ⟨some 30, .unOp .not 4 (.tmp 29), 4, some (22, false)⟩, oN 31 22 30 4]) (.cond (.tmp 31) (.seq (.ops [oD 2 4]) (.ret)) (.skip)))) (q38c0)
@[simp] theorem q38c1R : type_of% (run_is q38c1.eq_1) := run_is rfl
def q38l0 : QCode := .seq (.seq (.ops [oA 7 3 3, oF 8 29 1 5 0, oC 9 25 8 25, oE 10 9 25 3, oK 11 3 7 10 3 4]) (.cond (.tmp 11) (.skip) (.exit 0))) (q38c1)
@[simp] theorem q38l0R : type_of% (run_is q38l0.eq_1) := run_is rfl
def q38c2 : QCode := .ops [oA 37 4 3, oJ 38 3 37 1 3 3, oB 4 38 3]
@[simp] theorem q38c2R : type_of% (run_is q38c2.eq_1) := run_is rfl
def q38c3 : QCode := .seq (.block 3 (.seq (.ops [oF 39 29 1 6 0, oC 40 26 39 26, oA 41 4 3, oS 42 26 40 41 0, oF 43 35 42 0 0, oC 44 9 43 9, oH 45 109 44 9 4, oT 46 4 45 4, oA 47 46 4, oAH 48 29 1 6 0 47, oAE 49 26 48 26 47, oI 50 4 3 47, ⟨some 51, .indexAddr 26 (.tmp 49) (.tmp 50), 0, some (47, false)⟩, oAH 52 35 51 1 0 47, oAE 53 9 52 9 47, oAM 54 110 53 9 4 47, ⟨some 55, .unOp .not 4 (.tmp 54), 4, some (47, false)⟩, oN 56 47 55 4]) (.cond (.tmp 56) (.seq (.ops [oD 2 4]) (.ret)) (.skip)))) (q38c2)
@[simp] theorem q38c3R : type_of% (run_is q38c3.eq_1) := run_is rfl
def q38l1 : QCode := .seq (.seq (.ops [oA 32 4 3, oF 33 29 1 6 0, oC 34 26 33 26, oE 35 34 26 3, oK 36 3 32 35 3 4]) (.cond (.tmp 36) (.skip) (.exit 2))) (q38c3)
@[simp] theorem q38l1R : type_of% (run_is q38l1.eq_1) := run_is rfl
def q38c4 : QCode := .ops [oA 62 5 3, oJ 63 3 62 1 3 3, oB 5 63 3]
@[simp] theorem q38c4R : type_of% (run_is q38c4.eq_1) := run_is rfl
def q38c5 : QCode := .seq (.block 5 (.seq (.ops [oF 64 29 1 7 0, oC 65 27 64 27, oA 66 5 3, oS 67 27 65 66 0, oC 68 9 67 9, oH 69 111 68 9 4, oT 70 4 69 4]) (.cond (.tmp 70) (.seq (.ops [oD 2 4]) (.ret)) (.skip)))) (q38c4)
@[simp] theorem q38c5R : type_of% (run_is q38c5.eq_1) := run_is rfl
def q38l2 : QCode := .seq (.seq (.ops [oA 57 5 3, oF 58 29 1 7 0, oC 59 27 58 27, oE 60 59 27 3, oK 61 3 57 60 3 4]) (.cond (.tmp 61) (.skip) (.exit 4))) (q38c5)
@[simp] theorem q38l2R : type_of% (run_is q38l2.eq_1) := run_is rfl
def q38c6 : QCode := .seq (.ops [oF 71 29 1 2 0, oC 72 23 71 23, oE 73 72 23 3, ⟨some 74, .binOp .leq 3 (.tmp 73) (.const (.int .i64 6)) 3, 4, none⟩, oA 75 74 4, oAD 76 29 1 5 0 75, oAA 77 25 76 25 75, oAU 78 77 25 3 75, ⟨some 79, .binOp .leq 3 (.tmp 78) (.const (.int .i64 6)) 3, 4, some (75, true)⟩, oP 80 75 79 4, oA 81 80 4, oAD 82 29 1 6 0 81, oAA 83 26 82 26 81, oAU 84 83 26 3 81, ⟨some 85, .binOp .leq 3 (.tmp 84) (.const (.int .i64 6)) 3, 4, some (81, true)⟩, oP 86 81 85 4, oA 87 86 4, oAD 88 29 1 7 0 87, oAA 89 27 88 27 87, oAU 90 89 27 3 87, ⟨some 91, .binOp .leq 3 (.tmp 90) (.const (.int .i64 10)) 3, 4, some (87, true)⟩, oP 92 87 91 4, oB 6 92 4]) (.seq (.ops [oA 93 6 4, oA 94 93 4, oAD 95 29 1 0 0 94, oAA 96 9 95 9 94, oAK 97 109 96 9 4 94, oP 98 94 97 4, oA 99 98 4, oAD 100 29 1 1 0 99, oAA 101 9 100 9 99, oAK 102 112 101 9 4 99, oP 103 99 102 4, oA 104 103 4, oAD 105 29 1 2 0 104, oAA 106 23 105 23 104, oAK 107 113 106 23 4 104, oP 108 104 107 4, oA 109 108 4, oAD 110 29 1 3 0 109, oAA 111 24 110 24 109, oAK 112 114 111 24 4 109, oP 113 109 112 4, oA 114 113 4, oAD 115 29 1 4 0 114, oAA 116 24 115 24 114, oAK 117 114 116 24 4 114, oP 118 114 117 4, oB 2 118 4]) (.ret))
@[simp] theorem q38c6R : type_of% (run_is q38c6.eq_1) := run_is rfl
def q38c7 : QCode := .seq (.seq (.ops [oG 5 0 3]) (.block 4 (.loop q38l2))) (q38c6)
@[simp] theorem q38c7R : type_of% (run_is q38c7.eq_1) := run_is rfl
def q38c8 : QCode := .seq (.seq (.ops [oG 4 0 3]) (.block 2 (.loop q38l1))) (q38c7)
@[simp] theorem q38c8R : type_of% (run_is q38c8.eq_1) := run_is rfl
@[simp] def q38 : QFn := ⟨119, [(.tmp 2, 4)], .seq (.ops [oY 1 29 0 0, oD 2 4]) (.seq (.seq (.ops [oG 3 0 3]) (.block 0 (.loop q38l0))) (q38c8))⟩
theorem Cv38 : convF Tryz.f38 = some q38 := by kernel_rfl
abbrev Fn39 : FuncId := 39
def q39c0 : QCode := .ops [oA 19 4 3, oJ 20 3 19 1 3 3, oB 4 20 3]
@[simp] theorem q39c0R : type_of% (run_is q39c0.eq_1) := run_is rfl
def q39c1 : QCode := .seq (.block 1 (.ops [oA 21 3 27, oF 22 29 1 2 0, oC 23 23 22 23, oA 24 4 3, oS 25 23 23 24 0, oF 26 33 25 0 0, oC 27 9 26 9, oZ 28 27 1 0 27 27, oV 29 21 28 27 27 27, oB 3 29 27])) (q39c0)
@[simp] theorem q39c1R : type_of% (run_is q39c1.eq_1) := run_is rfl
def q39l0 : QCode := .seq (.seq (.ops [oA 14 4 3, oF 15 29 1 2 0, oC 16 23 15 23, oE 17 16 23 3, oK 18 3 14 17 3 4]) (.cond (.tmp 18) (.skip) (.exit 0))) (q39c1)
@[simp] theorem q39l0R : type_of% (run_is q39l0.eq_1) := run_is rfl
def q39c2 : QCode := .ops [oA 36 6 3, oJ 37 3 36 1 3 3, oB 6 37 3]
@[simp] theorem q39c2R : type_of% (run_is q39c2.eq_1) := run_is rfl
def q39c3 : QCode := .seq (.block 3 (.ops [oA 38 5 27, oF 39 29 1 3 0, oC 40 24 39 24, oA 41 6 3, oS 42 24 40 41 0, oF 43 94 42 0 0, oC 44 9 43 9, oZ 45 27 1 0 44 27, oV 46 38 45 27 27 27, oB 5 46 27])) (q39c2)
@[simp] theorem q39c3R : type_of% (run_is q39c3.eq_1) := run_is rfl
def q39l1 : QCode := .seq (.seq (.ops [oA 31 6 3, oF 32 29 1 3 0, oC 33 24 32 24, oE 34 33 24 3, oK 35 3 31 34 3 4]) (.cond (.tmp 35) (.skip) (.exit 2))) (q39c3)
@[simp] theorem q39l1R : type_of% (run_is q39l1.eq_1) := run_is rfl
def q39c4 : QCode := .ops [oA 55 8 3, oJ 56 3 55 1 3 3, oB 8 56 3]
@[simp] theorem q39c4R : type_of% (run_is q39c4.eq_1) := run_is rfl
def q39c5 : QCode := .seq (.block 5 (.ops [oA 57 7 27, oF 58 29 1 4 0, oC 59 24 58 24, oA 60 8 3, oS 61 24 59 60 0, oF 62 94 61 0 0, oC 63 9 62 9, oZ 64 27 1 0 63 27, oV 65 57 64 27 27 27, oB 7 65 27])) (q39c4)
@[simp] theorem q39c5R : type_of% (run_is q39c5.eq_1) := run_is rfl
def q39l2 : QCode := .seq (.seq (.ops [oA 50 8 3, oF 51 29 1 4 0, oC 52 24 51 24, oE 53 52 24 3, oK 54 3 50 53 3 4]) (.cond (.tmp 54) (.skip) (.exit 4))) (q39c5)
@[simp] theorem q39l2R : type_of% (run_is q39l2.eq_1) := run_is rfl
def q39c6 : QCode := .ops [oA 72 10 3, oJ 73 3 72 1 3 3, oB 10 73 3]
@[simp] theorem q39c6R : type_of% (run_is q39c6.eq_1) := run_is rfl
def q39c7 : QCode := .seq (.block 7 (.ops [oA 74 9 27, oF 75 29 1 5 0, oC 76 25 75 25, oA 77 10 3, oS 78 25 76 77 0, oF 79 97 78 0 0, oC 80 9 79 9, oZ 81 27 1 0 80 27, oV 82 74 81 27 27 27, oB 9 82 27])) (q39c6)
@[simp] theorem q39c7R : type_of% (run_is q39c7.eq_1) := run_is rfl
def q39l3 : QCode := .seq (.seq (.ops [oA 67 10 3, oF 68 29 1 5 0, oC 69 25 68 25, oE 70 69 25 3, oK 71 3 67 70 3 4]) (.cond (.tmp 71) (.skip) (.exit 6))) (q39c7)
@[simp] theorem q39l3R : type_of% (run_is q39l3.eq_1) := run_is rfl
def q39c8 : QCode := .ops [oA 91 12 3, oJ 92 3 91 1 3 3, oB 12 92 3]
@[simp] theorem q39c8R : type_of% (run_is q39c8.eq_1) := run_is rfl
def q39c9 : QCode := .seq (.block 9 (.ops [oA 93 11 27, oF 94 29 1 6 0, oC 95 26 94 26, oA 96 12 3, oS 97 26 95 96 0, oF 98 35 97 0 0, oC 99 9 98 9, oZ 100 27 1 0 99 27, oV 101 93 100 27 27 27, oB 11 101 27])) (q39c8)
@[simp] theorem q39c9R : type_of% (run_is q39c9.eq_1) := run_is rfl
def q39l4 : QCode := .seq (.seq (.ops [oA 86 12 3, oF 87 29 1 6 0, oC 88 26 87 26, oE 89 88 26 3, oK 90 3 86 89 3 4]) (.cond (.tmp 90) (.skip) (.exit 8))) (q39c9)
@[simp] theorem q39l4R : type_of% (run_is q39l4.eq_1) := run_is rfl
def q39c10 : QCode := .seq (.ops [oA 102 3 27, oH 103 115 102 27 4, oA 104 103 4, oI 105 5 27 104, oAM 106 115 105 27 4 104, oN 107 104 106 4, oA 108 107 4, oI 109 7 27 108, oAM 110 115 109 27 4 108, oN 111 108 110 4, oA 112 111 4, oI 113 9 27 112, oAM 114 115 113 27 4 112, oN 115 112 114 4, oA 116 115 4, oI 117 11 27 116, oAM 118 115 117 27 4 116, oN 119 116 118 4, oB 2 119 4]) (.ret)
@[simp] theorem q39c10R : type_of% (run_is q39c10.eq_1) := run_is rfl
def q39c11 : QCode := .seq (.ops [oF 83 29 1 0 0, oC 84 9 83 9, oZ 85 27 1 0 84 27, oB 11 85 27]) (.seq (.seq (.ops [oG 12 0 3]) (.block 8 (.loop q39l4))) (q39c10))
@[simp] theorem q39c11R : type_of% (run_is q39c11.eq_1) := run_is rfl
def q39c12 : QCode := .seq (.ops [⟨some 66, .buildSlice 27 0 #[], 27, none⟩, oB 9 66 27]) (.seq (.seq (.ops [oG 10 0 3]) (.block 6 (.loop q39l3))) (q39c11))
@[simp] theorem q39c12R : type_of% (run_is q39c12.eq_1) := run_is rfl
def q39c13 : QCode := .seq (.ops [oF 47 29 1 0 0, oC 48 9 47 9, oZ 49 27 1 0 48 27, oB 7 49 27]) (.seq (.seq (.ops [oG 8 0 3]) (.block 4 (.loop q39l2))) (q39c12))
@[simp] theorem q39c13R : type_of% (run_is q39c13.eq_1) := run_is rfl
def q39c14 : QCode := .seq (.ops [⟨some 30, .buildSlice 27 0 #[], 27, none⟩, oB 5 30 27]) (.seq (.seq (.ops [oG 6 0 3]) (.block 2 (.loop q39l1))) (q39c13))
@[simp] theorem q39c14R : type_of% (run_is q39c14.eq_1) := run_is rfl
@[simp] def q39 : QFn := ⟨120, [(.tmp 2, 4)], .seq (.ops [oY 1 29 0 0, oD 2 4]) (.seq (.ops [⟨some 13, .buildSlice 27 2 #[(0, .const (.string { data := #[110, 97, 109, 101] })), (1, .const (.string { data := #[118, 101, 114, 115, 105, 111, 110] }))], 27, none⟩, oB 3 13 27]) (.seq (.seq (.ops [oG 4 0 3]) (.block 0 (.loop q39l0))) (q39c14)))⟩
theorem Cv39 : convF Tryz.f39 = some q39 := by kernel_rfl
abbrev Fn40 : FuncId := 40
def q40c0 : QCode := .ops [oA 51 13 3, oJ 52 3 51 1 3 3, oB 13 52 3]
@[simp] theorem q40c0R : type_of% (run_is q40c0.eq_1) := run_is rfl
def q40c1 : QCode := .seq (.block 4 (.seq (.ops [oA 53 2 27, oA 54 13 3, oS 55 27 53 54 0, oC 56 9 55 9, oA 57 9 9, ⟨some 58, .binOp .eql 9 (.tmp 56) (.tmp 57) 9, 4, none⟩]) (.cond (.tmp 58) (.seq (.ops [oL 6 9, oG 7 4 3]) (.ret)) (.skip)))) (q40c0)
@[simp] theorem q40c1R : type_of% (run_is q40c1.eq_1) := run_is rfl
def q40l0 : QCode := .seq (.seq (.ops [oA 47 13 3, oA 48 2 27, oE 49 48 27 3, oK 50 3 47 49 3 4]) (.cond (.tmp 50) (.skip) (.exit 3))) (q40c1)
@[simp] theorem q40l0R : type_of% (run_is q40l0.eq_1) := run_is rfl
def q40c2 : QCode := .seq (.ops [oA 78 8 9, oA 79 14 9, oAL 80 9 78 79 9 9, oB 8 80 9]) (.seq (.ops [oA 81 10 9, oB 1 81 9]) (.seq (.ops [oA 82 8 9, oE 83 82 9 3, oAI 84 3 83 80 3 4]) (.cond (.tmp 84) (.seq (.ops [oL 6 9, oG 7 5 3]) (.ret)) (.skip))))
@[simp] theorem q40c2R : type_of% (run_is q40c2.eq_1) := run_is rfl
def q40c3 : QCode := .seq (.draw [0] [⟨some 60, .move (.tmp 0), 23, none⟩, ⟨some 61, .move (.tmp 0), 23, none⟩, ⟨some 62, .move (.tmp 12), 3, none⟩, ⟨some 63, .indexAddr 23 (.tmp 61) (.tmp 62), 0, none⟩, ⟨some 64, .fieldAddr 33 (.tmp 63) 1, 0, none⟩, ⟨some 65, .load 9 (.tmp 64), 9, none⟩, ⟨some 66, .buildSlice 27 0 #[], 27, none⟩, ⟨some 67, .move (.tmp 2), 27, none⟩, ⟨some 68, .call { callee := .builtin .append, args := #[.tmp 66, .tmp 67], argTypes := #[27, 27] }, 27, none⟩, ⟨some 69, .move (.tmp 9), 9, none⟩, ⟨some 70, .buildSlice 27 1 #[(0, .tmp 69)], 27, none⟩, ⟨some 71, .call { callee := .builtin .append, args := #[.tmp 68, .tmp 70], argTypes := #[27, 27] }, 27, none⟩, ⟨some 72, .call { callee := .value (.func 40), args := #[.tmp 60, .tmp 65, .tmp 71], argTypes := #[23, 9, 27] }, 63, none⟩, ⟨some 59, .move (.tmp 72), 63, none⟩, ⟨some 73, .extract (.tmp 59) 0, 9, none⟩, ⟨some 74, .extract (.tmp 59) 1, 3, none⟩, ⟨some 14, .assign (.tmp 73), 9, none⟩] [⟨some 15, .assign (.tmp 74), 3, none⟩]) (.seq (.seq (.ops [oA 75 15 3, oAP 76 3 75 0 3 4]) (.cond (.tmp 76) (.seq (.ops [oA 77 15 3, oL 6 9, oB 7 77 3]) (.ret)) (.skip))) (q40c2))
@[simp] theorem q40c3R : type_of% (run_is q40c3.eq_1) := run_is rfl
def q40c4 : QCode := .seq (.seq (.ops [oG 13 0 3]) (.block 3 (.loop q40l0))) (q40c3)
@[simp] theorem q40c4R : type_of% (run_is q40c4.eq_1) := run_is rfl
def q40c5 : QCode := .seq (.ops [oA 33 1 9, oH 34 116 33 9 134, oA 32 34 134, oQ 35 32 0 9, oQ 36 32 1 9, oQ 37 32 2 4, oB 9 35 9, oB 10 36 9, oB 11 37 4]) (.seq (.ops [oA 38 0 23, oA 39 9 9, oU 40 117 38 39 23 9 3, oB 12 40 3]) (.seq (.block 2 (.seq (.ops [oA 42 11 4, oT 43 4 42 4, oB 41 43 4]) (.cond (.tmp 41) (.seq (.ops [oL 6 9, oG 7 1 3]) (.ret)) (.seq (.ops [oA 45 12 3, oAN 46 3 45 0 3 4, oB 44 46 4]) (.cond (.tmp 44) (.seq (.ops [oL 6 9, oG 7 3 3]) (.ret)) (.skip)))))) (q40c4)))
@[simp] theorem q40c5R : type_of% (run_is q40c5.eq_1) := run_is rfl
def q40c6 : QCode := .block 1 (.seq (.seq (.ops [oA 18 1 9, oE 19 18 9 3, oAN 20 3 19 2 3 4, oA 21 20 4, oI 22 1 9 21, ⟨some 23, .slice 9 (.tmp 22) none (some (.const (.int .i64 2))) none, 9, some (21, false)⟩, ⟨some 24, .binOp .neq 9 (.tmp 23) (.const (.string { data := #[36, 123] })) 9, 4, some (21, false)⟩, oN 25 21 24 4]) (.cond (.tmp 25) (.seq (.ops [oA 26 8 9, oA 27 1 9, ⟨some 28, .slice 9 (.tmp 27) none (some (.const (.int .i64 1))) none, 9, none⟩, oAL 29 9 26 28 9 9, oB 8 29 9]) (.seq (.ops [oA 30 1 9, ⟨some 31, .slice 9 (.tmp 30) (some (.const (.int .i64 1))) none none, 9, none⟩, oB 1 31 9]) (.exit 1))) (.skip))) (q40c5))
@[simp] theorem q40c6R : type_of% (run_is q40c6.eq_1) := run_is rfl
def q40l1 : QCode := .seq (.seq (.ops [oA 16 1 9, ⟨some 17, .binOp .neq 9 (.tmp 16) (.const (.string { data := #[] })) 9, 4, none⟩]) (.cond (.tmp 17) (.skip) (.exit 0))) (q40c6)
@[simp] theorem q40l1R : type_of% (run_is q40l1.eq_1) := run_is rfl
def q40c7 : QCode := .seq (.ops [oA 88 8 9, oB 6 88 9, oG 7 0 3]) (.ret)
@[simp] theorem q40c7R : type_of% (run_is q40c7.eq_1) := run_is rfl
def q40c8 : QCode := .seq (.seq (.ops [oA 85 8 9, oE 86 85 9 3, oAI 87 3 86 80 3 4]) (.cond (.tmp 87) (.seq (.ops [oL 6 9, oG 7 5 3]) (.ret)) (.skip))) (q40c7)
@[simp] theorem q40c8R : type_of% (run_is q40c8.eq_1) := run_is rfl
@[simp] def q40 : QFn := ⟨89, [(.tmp 6, 9), (.tmp 7, 3)], .seq (.ops [oL 6 9, oG 7 0 3]) (.seq (.ops [oL 8 9]) (.seq (.block 0 (.loop q40l1)) (q40c8)))⟩
theorem Cv40 : convF Tryz.f40 = some q40 := by kernel_rfl
abbrev Fn41 : FuncId := 41
@[simp] def q41 : QFn := ⟨13, [(.tmp 2, 23)], .seq (.ops [oY 1 29 0 0, oX 2 23]) (.seq (.ops [oF 3 29 1 0 0, oC 4 9 3 9, ⟨some 5, .build 33 #[(0, .const (.string { data := #[110, 97, 109, 101] })), (1, .tmp 4)], 33, none⟩, oF 6 29 1 1 0, oC 7 9 6 9, ⟨some 8, .build 33 #[(0, .const (.string { data := #[118, 101, 114, 115, 105, 111, 110] })), (1, .tmp 7)], 33, none⟩, ⟨some 9, .buildSlice 23 2 #[(0, .tmp 5), (1, .tmp 8)], 23, none⟩, oF 10 29 1 2 0, oC 11 23 10 23, oV 12 9 11 23 23 23, oB 2 12 23]) (.ret))⟩
theorem Cv41 : convF Tryz.f41 = some q41 := by kernel_rfl
abbrev Fn67 : FuncId := 67
def q67c0 : QCode := .ops [oA 21 9 3, oJ 22 3 21 1 3 3, oB 9 22 3]
@[simp] theorem q67c0R : type_of% (run_is q67c0.eq_1) := run_is rfl
def q67c1 : QCode := .seq (.block 1 (.seq (.ops [oA 23 0 9, oA 24 9 3, oAG 25 9 23 24 5, oA 26 1 5, ⟨some 27, .binOp .eql 5 (.tmp 25) (.tmp 26) 5, 4, none⟩]) (.cond (.tmp 27) (.seq (.ops [oA 28 7 27, oA 29 0 9, oA 30 8 3, oA 31 9 3, ⟨some 32, .slice 9 (.tmp 29) (some (.tmp 30)) (some (.tmp 31)) none, 9, none⟩, oZ 33 27 1 0 32 27, oV 34 28 33 27 27 27, oB 7 34 27]) (.ops [oA 35 9 3, oJ 36 3 35 1 3 3, oB 8 36 3])) (.skip)))) (q67c0)
@[simp] theorem q67c1R : type_of% (run_is q67c1.eq_1) := run_is rfl
def q67l0 : QCode := .seq (.seq (.ops [oA 11 9 3, oA 12 0 9, oE 13 12 9 3, oK 14 3 11 13 3 4, oA 15 14 4, oO 16 7 27 15, oAU 17 16 27 3 15, oO 18 2 3 15, ⟨some 19, .binOp .lss 3 (.tmp 17) (.tmp 18) 3, 4, some (15, true)⟩, oP 20 15 19 4]) (.cond (.tmp 20) (.skip) (.exit 0))) (q67c1)
@[simp] theorem q67l0R : type_of% (run_is q67l0.eq_1) := run_is rfl
def q67c2 : QCode := .seq (.ops [oA 37 7 27, oA 38 0 9, oA 39 8 3, ⟨some 40, .slice 9 (.tmp 38) (some (.tmp 39)) none none, 9, none⟩, oZ 41 27 1 0 40 27, oV 42 37 41 27 27 27, oB 6 42 27]) (.ret)
@[simp] theorem q67c2R : type_of% (run_is q67c2.eq_1) := run_is rfl
@[simp] def q67 : QFn := ⟨43, [(.tmp 6, 27)], .seq (.ops [oX 6 27]) (.seq (.ops [⟨some 10, .buildSlice 27 0 #[], 27, none⟩, oB 7 10 27]) (.seq (.ops [oG 8 0 3]) (.seq (.seq (.ops [oG 9 0 3]) (.block 0 (.loop q67l0))) (q67c2))))⟩
theorem Cv67 : convF Tryz.f67 = some q67 := by kernel_rfl
abbrev Fn78 : FuncId := 78
def q78c0 : QCode := .seq (.ops [oC 74 29 5 29, oM 29 4 74 0]) (.ret)
@[simp] theorem q78c0R : type_of% (run_is q78c0.eq_1) := run_is rfl
def q78c1 : QCode := .seq (.seq (.ops [oA 64 0 58, oAC 65 80 64 3 58 3 3, oW 66 3 65 0 3 4]) (.cond (.tmp 66) (.draw [0] [⟨some 67, .fieldAddr 29 (.tmp 5) 4, 0, none⟩, ⟨some 68, .load 24 (.tmp 67), 24, none⟩, ⟨some 69, .move (.tmp 0), 58, none⟩, ⟨some 70, .call { callee := .value (.func 83), args := #[.tmp 69], argTypes := #[58] }, 94, none⟩, ⟨some 71, .buildSlice 24 1 #[(0, .tmp 70)], 24, none⟩] [⟨some 72, .call { callee := .builtin .append, args := #[.tmp 68, .tmp 71], argTypes := #[24, 24] }, 24, none⟩, ⟨some 73, .fieldAddr 29 (.tmp 5) 4, 0, none⟩, ⟨none, .store 24 (.tmp 73) (.tmp 72), 0, none⟩]) (.skip))) (q78c0)
@[simp] theorem q78c1R : type_of% (run_is q78c1.eq_1) := run_is rfl
def q78c2 : QCode := .seq (.seq (.ops [oA 54 0 58, oAC 55 80 54 3 58 3 3, oW 56 3 55 0 3 4]) (.cond (.tmp 56) (.draw [0] [⟨some 57, .fieldAddr 29 (.tmp 5) 3, 0, none⟩, ⟨some 58, .load 24 (.tmp 57), 24, none⟩, ⟨some 59, .move (.tmp 0), 58, none⟩, ⟨some 60, .call { callee := .value (.func 83), args := #[.tmp 59], argTypes := #[58] }, 94, none⟩, ⟨some 61, .buildSlice 24 1 #[(0, .tmp 60)], 24, none⟩] [⟨some 62, .call { callee := .builtin .append, args := #[.tmp 58, .tmp 61], argTypes := #[24, 24] }, 24, none⟩, ⟨some 63, .fieldAddr 29 (.tmp 5) 3, 0, none⟩, ⟨none, .store 24 (.tmp 63) (.tmp 62), 0, none⟩]) (.skip))) (q78c1)
@[simp] theorem q78c2R : type_of% (run_is q78c2.eq_1) := run_is rfl
def q78c3 : QCode := .seq (.seq (.ops [oA 40 0 58, oAC 41 80 40 3 58 3 3, oW 42 3 41 0 3 4]) (.cond (.tmp 42) (.draw [0] [⟨some 43, .fieldAddr 29 (.tmp 5) 6, 0, none⟩, ⟨some 44, .load 26 (.tmp 43), 26, none⟩, ⟨some 45, .move (.tmp 1), 9, none⟩, ⟨some 46, .binOp .add 9 (.tmp 45) (.const (.string { data := #[108, 105, 98] })) 9, 9, none⟩, ⟨some 47, .move (.tmp 0), 58, none⟩, ⟨some 48, .buildSlice 27 3 #[(0, .const (.string { data := #[108, 105, 98, 47, 42, 42] })), (1, .const (.string { data := #[42, 42] })), (2, .const (.string { data := #[98] }))], 27, none⟩, ⟨some 49, .call { callee := .value (.func 79), args := #[.tmp 47, .tmp 48], argTypes := #[58, 27] }, 9, none⟩, ⟨some 50, .build 35 #[(0, .tmp 46), (1, .tmp 49)], 35, none⟩, ⟨some 51, .buildSlice 26 1 #[(0, .tmp 50)], 26, none⟩] [⟨some 52, .call { callee := .builtin .append, args := #[.tmp 44, .tmp 51], argTypes := #[26, 26] }, 26, none⟩, ⟨some 53, .fieldAddr 29 (.tmp 5) 6, 0, none⟩, ⟨none, .store 26 (.tmp 53) (.tmp 52), 0, none⟩]) (.skip))) (q78c2)
@[simp] theorem q78c3R : type_of% (run_is q78c3.eq_1) := run_is rfl
def q78c4 : QCode := .seq (.seq (.ops [oA 26 0 58, oAC 27 80 26 2 58 3 3, oW 28 3 27 0 3 4]) (.cond (.tmp 28) (.draw [0] [⟨some 29, .fieldAddr 29 (.tmp 5) 6, 0, none⟩, ⟨some 30, .load 26 (.tmp 29), 26, none⟩, ⟨some 31, .move (.tmp 1), 9, none⟩, ⟨some 32, .binOp .add 9 (.tmp 31) (.const (.string { data := #[100, 111, 99] })) 9, 9, none⟩, ⟨some 33, .move (.tmp 0), 58, none⟩, ⟨some 34, .buildSlice 27 3 #[(0, .const (.string { data := #[100, 111, 99, 47, 42, 42] })), (1, .const (.string { data := #[42, 42, 47, 99] })), (2, .const (.string { data := #[97, 47, 42] }))], 27, none⟩, ⟨some 35, .call { callee := .value (.func 79), args := #[.tmp 33, .tmp 34], argTypes := #[58, 27] }, 9, none⟩, ⟨some 36, .build 35 #[(0, .tmp 32), (1, .tmp 35)], 35, none⟩, ⟨some 37, .buildSlice 26 1 #[(0, .tmp 36)], 26, none⟩] [⟨some 38, .call { callee := .builtin .append, args := #[.tmp 30, .tmp 37], argTypes := #[26, 26] }, 26, none⟩, ⟨some 39, .fieldAddr 29 (.tmp 5) 6, 0, none⟩, ⟨none, .store 26 (.tmp 39) (.tmp 38), 0, none⟩]) (.skip))) (q78c3)
@[simp] theorem q78c4R : type_of% (run_is q78c4.eq_1) := run_is rfl
@[simp] def q78 : QFn := ⟨75, [(.cell 4 29, 29)], .seq (.ops [oR 4 29 0]) (.seq (.ops [oA 6 1 9, oA 7 0 58, oH 8 139 7 58 9, oA 9 0 58, oH 10 140 9 58 27, oA 11 0 58, oH 12 141 11 58 23, ⟨some 13, .build 29 #[(0, .tmp 6), (1, .tmp 8), (7, .tmp 10), (2, .tmp 12)], 29, none⟩, oR 5 29 0, oM 29 5 13 0]) (.seq (.seq (.ops [oA 14 0 58, oAC 15 80 14 2 58 3 3, oW 16 3 15 0 3 4]) (.cond (.tmp 16) (.draw [0] [⟨some 17, .fieldAddr 29 (.tmp 5) 5, 0, none⟩, ⟨some 18, .load 25 (.tmp 17), 25, none⟩, ⟨some 19, .move (.tmp 0), 58, none⟩, ⟨some 20, .call { callee := .value (.func 143), args := #[.tmp 19], argTypes := #[58] }, 9, none⟩, ⟨some 21, .call { callee := .value (.func 142), args := #[.tmp 20], argTypes := #[9] }, 9, none⟩, ⟨some 22, .build 97 #[(0, .const (.string { data := #[115, 114, 99] })), (1, .tmp 21)], 97, none⟩, ⟨some 23, .buildSlice 25 1 #[(0, .tmp 22)], 25, none⟩] [⟨some 24, .call { callee := .builtin .append, args := #[.tmp 18, .tmp 23], argTypes := #[25, 25] }, 25, none⟩, ⟨some 25, .fieldAddr 29 (.tmp 5) 5, 0, none⟩, ⟨none, .store 25 (.tmp 25) (.tmp 24), 0, none⟩]) (.skip))) (q78c4)))⟩
theorem Cv78 : convF Tryz.f78 = some q78 := by kernel_rfl
abbrev Fn79 : FuncId := 79
@[simp] def q79 : QFn := ⟨12, [(.tmp 4, 9)], .seq (.ops [oL 4 9]) (.seq (.ops [oA 5 1 27, oA 6 0 58, oA 7 1 27, oE 8 7 27 3, oU 9 80 6 8 58 3 3, oS 10 27 5 9 0, oC 11 9 10 9, oB 4 11 9]) (.ret))⟩
theorem Cv79 : convF Tryz.f79 = some q79 := by kernel_rfl
abbrev Fn80 : FuncId := 80
def q80c0 : QCode := .seq (.draw [] [⟨some 47, .move (.tmp 0), 58, none⟩, ⟨some 48, .nilCheck (.tmp 47), 0, none⟩, ⟨some 49, .fieldAddr 113 (.tmp 48) 0, 0, none⟩, ⟨some 50, .load 22 (.tmp 49), 22, none⟩, ⟨some 51, .move (.tmp 5), 3, none⟩, ⟨some 52, .move (.tmp 0), 58, none⟩, ⟨some 53, .nilCheck (.tmp 52), 0, none⟩, ⟨some 54, .fieldAddr 113 (.tmp 53) 0, 0, none⟩, ⟨some 55, .load 22 (.tmp 54), 22, none⟩, ⟨some 56, .call { callee := .builtin .len, args := #[.tmp 55], argTypes := #[22] }, 3, none⟩, ⟨some 57, .binOp .rem 3 (.tmp 51) (.tmp 56) 3, 3, none⟩, ⟨some 58, .indexAddr 22 (.tmp 50) (.tmp 57), 0, none⟩, ⟨some 59, .load 5 (.tmp 58), 5, none⟩, ⟨some 60, .convert 5 3 (.tmp 59), 3, none⟩, ⟨some 61, .binOp .mul 3 (.tmp 60) (.const (.int .i64 131)) 3, 3, none⟩, ⟨some 62, .move (.tmp 0), 58, none⟩, ⟨some 63, .nilCheck (.tmp 62), 0, none⟩, ⟨some 64, .fieldAddr 113 (.tmp 63) 0, 0, none⟩, ⟨some 65, .load 22 (.tmp 64), 22, none⟩, ⟨some 66, .move (.tmp 5), 3, none⟩, ⟨some 67, .binOp .mul 3 (.tmp 66) (.const (.int .i64 7)) 3, 3, none⟩, ⟨some 68, .binOp .add 3 (.tmp 67) (.const (.int .i64 3)) 3, 3, none⟩, ⟨some 69, .move (.tmp 0), 58, none⟩, ⟨some 70, .nilCheck (.tmp 69), 0, none⟩, ⟨some 71, .fieldAddr 113 (.tmp 70) 0, 0, none⟩, ⟨some 72, .load 22 (.tmp 71), 22, none⟩, ⟨some 73, .call { callee := .builtin .len, args := #[.tmp 72], argTypes := #[22] }, 3, none⟩, ⟨some 74, .binOp .rem 3 (.tmp 68) (.tmp 73) 3, 3, none⟩, ⟨some 75, .indexAddr 22 (.tmp 65) (.tmp 74), 0, none⟩, ⟨some 76, .load 5 (.tmp 75), 5, none⟩, ⟨some 77, .convert 5 3 (.tmp 76), 3, none⟩, ⟨some 78, .binOp .mul 3 (.tmp 77) (.const (.int .i64 1117)) 3, 3, none⟩, ⟨some 79, .binOp .add 3 (.tmp 61) (.tmp 78) 3, 3, none⟩, ⟨some 80, .move (.tmp 5), 3, none⟩, ⟨some 81, .binOp .mul 3 (.tmp 80) (.const (.int .i64 29)) 3, 3, none⟩, ⟨some 82, .binOp .add 3 (.tmp 79) (.tmp 81) 3, 3, none⟩, ⟨some 83, .move (.tmp 5), 3, none⟩, ⟨some 84, .move (.tmp 0), 58, none⟩, ⟨some 85, .nilCheck (.tmp 84), 0, none⟩, ⟨some 86, .fieldAddr 113 (.tmp 85) 0, 0, none⟩, ⟨some 87, .load 22 (.tmp 86), 22, none⟩, ⟨some 88, .call { callee := .builtin .len, args := #[.tmp 87], argTypes := #[22] }, 3, none⟩, ⟨some 89, .binOp .quo 3 (.tmp 83) (.tmp 88) 3, 3, none⟩, ⟨some 90, .binOp .mul 3 (.tmp 89) (.const (.int .i64 53)) 3, 3, none⟩] [⟨some 91, .binOp .add 3 (.tmp 82) (.tmp 90) 3, 3, none⟩, ⟨some 6, .assign (.tmp 91), 3, none⟩]) (.seq (.ops [oA 92 6 3, oA 93 6 3, ⟨some 94, .binOp .quo 3 (.tmp 93) (.const (.int .i64 64)) 3, 3, none⟩, ⟨some 95, .binOp .xor 3 (.tmp 92) (.tmp 94) 3, 3, none⟩, oB 6 95 3]) (.seq (.ops [oA 96 6 3, oA 97 1 3, ⟨some 98, .binOp .rem 3 (.tmp 96) (.tmp 97) 3, 3, none⟩, oB 4 98 3]) (.ret)))
@[simp] theorem q80c0R : type_of% (run_is q80c0.eq_1) := run_is rfl
def q80c1 : QCode := .seq (.ops [oA 25 0 58, ⟨some 26, .nilCheck (.tmp 25), 0, none⟩, oF 27 113 26 1 0, oC 28 3 27 3, oAR 29 3 28 1 3 3, oB 5 29 3]) (.seq (.seq (.ops [oA 30 5 3, oA 31 0 58, ⟨some 32, .nilCheck (.tmp 31), 0, none⟩, oF 33 113 32 0 0, oC 34 22 33 22, oE 35 34 22 3, oK 36 3 30 35 3 4]) (.cond (.tmp 36) (.seq (.ops [oA 37 0 58, ⟨some 38, .nilCheck (.tmp 37), 0, none⟩, oF 39 113 38 0 0, oC 40 22 39 22, oA 41 5 3, oS 42 22 40 41 0, oC 43 5 42 5, ⟨some 44, .convert 5 3 (.tmp 43), 3, none⟩, oA 45 1 3, ⟨some 46, .binOp .rem 3 (.tmp 44) (.tmp 45) 3, 3, none⟩, oB 4 46 3]) (.ret)) (.skip))) (q80c0))
@[simp] theorem q80c1R : type_of% (run_is q80c1.eq_1) := run_is rfl
@[simp] def q80 : QFn := ⟨99, [(.tmp 4, 3)], .seq (.ops [oG 4 0 3]) (.seq (.ops [oA 7 0 58, oA 8 0 58, ⟨some 9, .nilCheck (.tmp 8), 0, none⟩, oF 10 113 9 1 0, oC 11 3 10 3, oJ 12 3 11 1 3 3, ⟨some 13, .nilCheck (.tmp 7), 0, none⟩, oF 14 113 13 1 0, oM 3 14 12 0]) (.seq (.seq (.ops [oA 15 1 3, oAN 16 3 15 1 3 4, oA 17 16 4, oI 18 0 58 17, ⟨some 19, .nilCheck (.tmp 18), 0, some (17, false)⟩, oAH 20 113 19 0 0 17, oAE 21 22 20 22 17, oAQ 22 21 22 3 17, ⟨some 23, .binOp .eql 3 (.tmp 22) (.const (.int .i64 0)) 3, 4, some (17, false)⟩, oN 24 17 23 4]) (.cond (.tmp 24) (.seq (.ops [oG 4 0 3]) (.ret)) (.skip))) (q80c1)))⟩
theorem Cv80 : convF Tryz.f80 = some q80 := by kernel_rfl
abbrev Fn81 : FuncId := 81
def q81c0 : QCode := .seq (.ops [oA 9 0 58, oH 10 139 9 58 9, oB 2 10 9]) (.ret)
@[simp] theorem q81c0R : type_of% (run_is q81c0.eq_1) := run_is rfl
@[simp] def q81 : QFn := ⟨11, [(.tmp 2, 9)], .seq (.ops [oL 2 9]) (.seq (.seq (.ops [oA 3 0 58, oAC 4 80 3 6 58 3 3, oW 5 3 4 0 3 4]) (.cond (.tmp 5) (.seq (.ops [oA 6 0 58, ⟨some 7, .buildSlice 27 8 #[(0, .const (.string { data := #[] })), (1, .const (.string { data := #[46] })), (2, .const (.string { data := #[49, 46] })), (3, .const (.string { data := #[48, 49] })), (4, .const (.string { data := #[49, 48, 48, 48] })), (5, .const (.string { data := #[49, 46, 50, 46, 51, 46, 52, 46, 53] })), (6, .const (.string { data := #[97] })), (7, .const (.string { data := #[49, 46, 45, 49] }))], 27, none⟩, oU 8 79 6 7 58 27 9, oB 2 8 9]) (.ret)) (.skip))) (q81c0))⟩
theorem Cv81 : convF Tryz.f81 = some q81 := by kernel_rfl
abbrev Fn82 : FuncId := 82
def q82c0 : QCode := .seq (.ops [oC 25 94 3 94, oM 94 2 25 0]) (.ret)
@[simp] theorem q82c0R : type_of% (run_is q82c0.eq_1) := run_is rfl
@[simp] def q82 : QFn := ⟨26, [(.cell 2 94, 94)], .seq (.ops [oR 2 94 0]) (.seq (.ops [oA 4 0 58, oH 5 83 4 58 94, oR 3 94 0, oM 94 3 5 0]) (.seq (.seq (.ops [oA 6 0 58, oAC 7 80 6 14 58 3 3]) (.block 0 (.seq (.ops [oW 9 3 7 0 3 4, oB 8 9 4]) (.cond (.tmp 8) (.ops [oA 10 0 58, ⟨some 11, .buildSlice 27 4 #[(0, .const (.string { data := #[] })), (1, .const (.string { data := #[57] })), (2, .const (.string { data := #[79, 110, 101] })), (3, .const (.string { data := #[101, 108, 101, 118, 101, 110, 108, 101, 116, 116, 101] }))], 27, none⟩, oU 12 79 10 11 58 27 9, oF 13 94 3 0 0, oM 9 13 12 0]) (.seq (.ops [oW 15 3 7 1 3 4, oB 14 15 4]) (.cond (.tmp 14) (.ops [oA 16 0 58, oAC 17 80 16 6 58 3 3, oAR 18 3 17 1 3 3, oF 19 94 3 1 0, oM 3 19 18 0]) (.seq (.ops [oW 21 3 7 2 3 4, oB 20 21 4]) (.cond (.tmp 20) (.ops [oA 22 0 58, oH 23 81 22 58 9, oF 24 94 3 2 0, oM 9 24 23 0]) (.skip))))))))) (q82c0)))⟩
theorem Cv82 : convF Tryz.f82 = some q82 := by kernel_rfl
abbrev Fn83 : FuncId := 83
def q83c0 : QCode := .seq (.ops [oC 16 94 3 94, oM 94 2 16 0]) (.ret)
@[simp] theorem q83c0R : type_of% (run_is q83c0.eq_1) := run_is rfl
@[simp] def q83 : QFn := ⟨17, [(.cell 2 94, 94)], .seq (.ops [oR 2 94 0]) (.seq (.ops [oA 4 0 58, ⟨some 5, .buildSlice 27 4 #[(0, .const (.string { data := #[111, 110, 101] })), (1, .const (.string { data := #[116, 119, 111] })), (2, .const (.string { data := #[116, 104, 114, 101, 101] })), (3, .const (.string { data := #[122, 105, 112] }))], 27, none⟩, oU 6 79 4 5 58 27 9, oA 7 0 58, oAC 8 80 7 4 58 3 3, ⟨some 9, .build 94 #[(0, .tmp 6), (1, .tmp 8)], 94, none⟩, oR 3 94 0, oM 94 3 9 0]) (.seq (.seq (.ops [oF 10 94 3 1 0, oC 11 3 10 3, oAP 12 3 11 0 3 4]) (.cond (.tmp 12) (.ops [oA 13 0 58, oH 14 139 13 58 9, oF 15 94 3 2 0, oM 9 15 14 0]) (.skip))) (q83c0)))⟩
theorem Cv83 : convF Tryz.f83 = some q83 := by kernel_rfl
abbrev Fn84 : FuncId := 84
def q84c0 : QCode := .seq (.ops [oA 11 0 58, oH 12 145 11 58 9, oB 2 12 9]) (.ret)
@[simp] theorem q84c0R : type_of% (run_is q84c0.eq_1) := run_is rfl
@[simp] def q84 : QFn := ⟨13, [(.tmp 2, 9)], .seq (.ops [oL 2 9]) (.seq (.seq (.ops [oA 3 0 58, oAC 4 80 3 6 58 3 3, oW 5 3 4 0 3 4]) (.cond (.tmp 5) (.seq (.ops [oA 6 0 58, ⟨some 7, .call { callee := .value (.func 144), args := #[.const (.string { data := #[42] }), .const (.int .i64 41)], argTypes := #[9, 3] }, 9, none⟩, ⟨some 8, .call { callee := .value (.func 144), args := #[.const (.string { data := #[42] }), .const (.int .i64 40)], argTypes := #[9, 3] }, 9, none⟩, ⟨some 9, .buildSlice 27 11 #[(0, .const (.string { data := #[] })), (1, .const (.string { data := #[47] })), (2, .const (.string { data := #[97, 47, 47, 98] })), (3, .const (.string { data := #[91] })), (4, .const (.string { data := #[91, 93] })), (5, .const (.string { data := #[91, 33, 93] })), (6, .const (.string { data := #[91, 97] })), (7, .const (.string { data := #[65] })), (8, .const (.string { data := #[97, 47, 98, 47, 99, 47, 100, 47, 101, 47, 102] })), (9, .tmp 7), (10, .tmp 8)], 27, none⟩, oU 10 79 6 9 58 27 9, oB 2 10 9]) (.ret)) (.skip))) (q84c0))⟩
theorem Cv84 : convF Tryz.f84 = some q84 := by kernel_rfl
abbrev Fn85 : FuncId := 85
def q85c0 : QCode := .ops [oJ 48 3 23 1 3 3, oA 23 48 3]
@[simp] theorem q85c0R : type_of% (run_is q85c0.eq_1) := run_is rfl
def q85c1 : QCode := .seq (.block 1 (.seq (.ops [oA 25 23 3, oB 3 25 3]) (.seq (.ops [oA 26 0 9, oA 27 3 3, oAG 28 9 26 27 5, ⟨some 29, .binOp .lss 5 (.tmp 28) (.const (.int .u8 97)) 5, 4, none⟩, oA 30 29 4, oI 31 0 9 30, oI 32 3 3 30, oAO 33 9 31 32 5 30, oAS 34 5 33 122 5 4 30, oN 35 30 34 4, oA 36 35 4, oO 37 0 9 36, oO 38 3 3 36, ⟨some 39, .index 9 (.tmp 37) (.tmp 38), 5, some (36, true)⟩, ⟨some 40, .binOp .lss 5 (.tmp 39) (.const (.int .u8 48)) 5, 4, some (36, true)⟩, oO 41 40 4 36, oI 42 0 9 41, oI 43 3 3 41, oAO 44 9 42 43 5 41, oAS 45 5 44 57 5 4 41, ⟨some 46, .pick (.tmp 41) (.const (.bool true)) (.tmp 45), 4, some (36, true)⟩, oP 47 36 46 4]) (.cond (.tmp 47) (.seq (.ops [oD 2 4]) (.ret)) (.skip))))) (q85c0)
@[simp] theorem q85c1R : type_of% (run_is q85c1.eq_1) := run_is rfl
def q85l0 : QCode := .seq (.ops [oK 24 3 23 22 3 4]) (.seq (.cond (.tmp 24) (.skip) (.exit 0)) (q85c1))
@[simp] theorem q85l0R : type_of% (run_is q85l0.eq_1) := run_is rfl
def q85c2 : QCode := .seq (.ops [oAB 2 4]) (.ret)
@[simp] theorem q85c2R : type_of% (run_is q85c2.eq_1) := run_is rfl
def q85c3 : QCode := .seq (.seq (.ops [oA 21 0 9, oE 22 21 9 3, oAF 23 0 3]) (.block 0 (.loop q85l0))) (q85c2)
@[simp] theorem q85c3R : type_of% (run_is q85c3.eq_1) := run_is rfl
@[simp] def q85 : QFn := ⟨49, [(.tmp 2, 4)], .seq (.ops [oD 2 4]) (.seq (.seq (.ops [oA 4 0 9, ⟨some 5, .binOp .eql 9 (.tmp 4) (.const (.string { data := #[] })) 9, 4, none⟩, oA 6 5 4, oI 7 0 9 6, oAQ 8 7 9 3 6, ⟨some 9, .binOp .gtr 3 (.tmp 8) (.const (.int .i64 10)) 3, 4, some (6, false)⟩, oN 10 6 9 4, oA 11 10 4, oI 12 0 9 11, ⟨some 13, .index 9 (.tmp 12) (.const (.int .i64 0)), 5, some (11, false)⟩, ⟨some 14, .binOp .lss 5 (.tmp 13) (.const (.int .u8 97)) 5, 4, some (11, false)⟩, oN 15 11 14 4, oA 16 15 4, oI 17 0 9 16, ⟨some 18, .index 9 (.tmp 17) (.const (.int .i64 0)), 5, some (16, false)⟩, oAS 19 5 18 122 5 4 16, oN 20 16 19 4]) (.cond (.tmp 20) (.seq (.ops [oD 2 4]) (.ret)) (.skip))) (q85c3))⟩
theorem Cv85 : convF Tryz.f85 = some q85 := by kernel_rfl
abbrev Fn86 : FuncId := 86
@[simp] def q86 : QFn := ⟨11, [(.tmp 2, 4)], .seq (.ops [oD 2 4]) (.seq (.ops [oA 6 0 9, oH 7 146 6 9 168, oA 5 7 168, oQ 8 5 0 167, oQ 9 5 1 4, oB 3 8 167, oB 4 9 4]) (.seq (.ops [oA 10 4 4, oB 2 10 4]) (.ret)))⟩
theorem Cv86 : convF Tryz.f86 = some q86 := by kernel_rfl
abbrev Fn87 : FuncId := 87
def q87c0 : QCode := .ops [oJ 17 3 9 1 3 3, oA 9 17 3]
@[simp] theorem q87c0R : type_of% (run_is q87c0.eq_1) := run_is rfl
def q87c1 : QCode := .seq (.block 1 (.seq (.ops [oS 11 23 7 9 0, oC 12 33 11 33, oR 6 33 0, oM 33 6 12 0]) (.seq (.ops [oA 13 1 115, oC 14 33 6 33, oAJ 15 13 14 33 4, oT 16 4 15 4]) (.cond (.tmp 16) (.seq (.ops [oD 4 4]) (.ret)) (.skip))))) (q87c0)
@[simp] theorem q87c1R : type_of% (run_is q87c1.eq_1) := run_is rfl
def q87l0 : QCode := .seq (.ops [oK 10 3 9 8 3 0]) (.seq (.cond (.tmp 10) (.skip) (.exit 0)) (q87c1))
@[simp] theorem q87l0R : type_of% (run_is q87l0.eq_1) := run_is rfl
def q87c2 : QCode := .seq (.ops [oAB 4 4]) (.ret)
@[simp] theorem q87c2R : type_of% (run_is q87c2.eq_1) := run_is rfl
@[simp] def q87 : QFn := ⟨18, [(.tmp 4, 4)], .seq (.ops [oD 4 4]) (.seq (.seq (.ops [oA 7 0 23, oE 8 7 23 3, oAF 9 0 3]) (.block 0 (.loop q87l0))) (q87c2))⟩
theorem Cv87 : convF Tryz.f87 = some q87 := by kernel_rfl
abbrev Fn88 : FuncId := 88
@[simp] def q88 : QFn := ⟨11, [(.tmp 2, 4)], .seq (.ops [oY 1 33 0 0, oD 2 4]) (.seq (.ops [oF 3 33 1 0 0, oC 4 9 3 9, oH 5 85 4 9 4, oA 6 5 4, oAD 7 33 1 1 0 6, oAA 8 9 7 9 6, oAK 9 96 8 9 4 6, oP 10 6 9 4, oB 2 10 4]) (.ret))⟩
theorem Cv88 : convF Tryz.f88 = some q88 := by kernel_rfl
abbrev Fn89 : FuncId := 89
def q89c0 : QCode := .ops [oJ 17 3 9 1 3 3, oA 9 17 3]
@[simp] theorem q89c0R : type_of% (run_is q89c0.eq_1) := run_is rfl
def q89c1 : QCode := .seq (.block 1 (.seq (.ops [oS 11 24 7 9 0, oC 12 94 11 94, oR 6 94 0, oM 94 6 12 0]) (.seq (.ops [oA 13 1 117, oC 14 94 6 94, oAJ 15 13 14 94 4, oT 16 4 15 4]) (.cond (.tmp 16) (.seq (.ops [oD 4 4]) (.ret)) (.skip))))) (q89c0)
@[simp] theorem q89c1R : type_of% (run_is q89c1.eq_1) := run_is rfl
def q89l0 : QCode := .seq (.ops [oK 10 3 9 8 3 0]) (.seq (.cond (.tmp 10) (.skip) (.exit 0)) (q89c1))
@[simp] theorem q89l0R : type_of% (run_is q89l0.eq_1) := run_is rfl
def q89c2 : QCode := .seq (.ops [oAB 4 4]) (.ret)
@[simp] theorem q89c2R : type_of% (run_is q89c2.eq_1) := run_is rfl
@[simp] def q89 : QFn := ⟨18, [(.tmp 4, 4)], .seq (.ops [oD 4 4]) (.seq (.seq (.ops [oA 7 0 24, oE 8 7 24 3, oAF 9 0 3]) (.block 0 (.loop q89l0))) (q89c2))⟩
theorem Cv89 : convF Tryz.f89 = some q89 := by kernel_rfl
abbrev Fn90 : FuncId := 90
def q90c0 : QCode := .cond (.tmp 14) (.seq (.ops [oF 18 94 1 2 0, oC 19 9 18 9, oH 20 86 19 9 4, oB 2 20 4]) (.ret)) (.skip)
@[simp] theorem q90c0R : type_of% (run_is q90c0.eq_1) := run_is rfl
def q90c1 : QCode := .seq (.ops [oD 2 4]) (.ret)
@[simp] theorem q90c1R : type_of% (run_is q90c1.eq_1) := run_is rfl
def q90c2 : QCode := .seq (.seq (.ops [oF 7 94 1 1 0, oC 8 3 7 3]) (.block 0 (.seq (.ops [oW 10 3 8 0 3 4, oB 9 10 4]) (.cond (.tmp 9) (.seq (.ops [oF 11 94 1 2 0, oC 12 9 11 9, ⟨some 13, .binOp .eql 9 (.tmp 12) (.const (.string { data := #[] })) 9, 4, none⟩, oB 2 13 4]) (.ret)) (.seq (.seq (.ops [oW 15 3 8 1 3 4, oB 14 15 4]) (.cond (.tmp 14) (.skip) (.seq (.ops [oW 16 3 8 2 3 4, oB 14 16 4]) (.cond (.tmp 14) (.skip) (.ops [oW 17 3 8 3 3 4, oB 14 17 4]))))) (q90c0)))))) (q90c1)
@[simp] theorem q90c2R : type_of% (run_is q90c2.eq_1) := run_is rfl
@[simp] def q90 : QFn := ⟨21, [(.tmp 2, 4)], .seq (.ops [oY 1 94 0 0, oD 2 4]) (.seq (.seq (.ops [oF 3 94 1 0 0, oC 4 9 3 9, oH 5 85 4 9 4, oT 6 4 5 4]) (.cond (.tmp 6) (.seq (.ops [oD 2 4]) (.ret)) (.skip))) (q90c2))⟩
theorem Cv90 : convF Tryz.f90 = some q90 := by kernel_rfl
abbrev Fn91 : FuncId := 91
def q91c0 : QCode := .ops [oJ 17 3 9 1 3 3, oA 9 17 3]
@[simp] theorem q91c0R : type_of% (run_is q91c0.eq_1) := run_is rfl
def q91c1 : QCode := .seq (.block 1 (.seq (.ops [oS 11 25 7 9 0, oC 12 97 11 97, oR 6 97 0, oM 97 6 12 0]) (.seq (.ops [oA 13 1 119, oC 14 97 6 97, oAJ 15 13 14 97 4, oT 16 4 15 4]) (.cond (.tmp 16) (.seq (.ops [oD 4 4]) (.ret)) (.skip))))) (q91c0)
@[simp] theorem q91c1R : type_of% (run_is q91c1.eq_1) := run_is rfl
def q91l0 : QCode := .seq (.ops [oK 10 3 9 8 3 0]) (.seq (.cond (.tmp 10) (.skip) (.exit 0)) (q91c1))
@[simp] theorem q91l0R : type_of% (run_is q91l0.eq_1) := run_is rfl
def q91c2 : QCode := .seq (.ops [oAB 4 4]) (.ret)
@[simp] theorem q91c2R : type_of% (run_is q91c2.eq_1) := run_is rfl
@[simp] def q91 : QFn := ⟨18, [(.tmp 4, 4)], .seq (.ops [oD 4 4]) (.seq (.seq (.ops [oA 7 0 25, oE 8 7 25 3, oAF 9 0 3]) (.block 0 (.loop q91l0))) (q91c2))⟩
theorem Cv91 : convF Tryz.f91 = some q91 := by kernel_rfl
abbrev Fn92 : FuncId := 92
@[simp] def q92 : QFn := ⟨11, [(.tmp 2, 4)], .seq (.ops [oY 1 97 0 0, oD 2 4]) (.seq (.ops [oF 3 97 1 0 0, oC 4 9 3 9, oH 5 147 4 9 4, oA 6 5 4, oAD 7 97 1 1 0 6, oAA 8 9 7 9 6, oAK 9 148 8 9 4 6, oP 10 6 9 4, oB 2 10 4]) (.ret))⟩
theorem Cv92 : convF Tryz.f92 = some q92 := by kernel_rfl
abbrev Fn93 : FuncId := 93
def q93c0 : QCode := .ops [oJ 17 3 9 1 3 3, oA 9 17 3]
@[simp] theorem q93c0R : type_of% (run_is q93c0.eq_1) := run_is rfl
def q93c1 : QCode := .seq (.block 1 (.seq (.ops [oS 11 26 7 9 0, oC 12 35 11 35, oR 6 35 0, oM 35 6 12 0]) (.seq (.ops [oA 13 1 121, oC 14 35 6 35, oAJ 15 13 14 35 4, oT 16 4 15 4]) (.cond (.tmp 16) (.seq (.ops [oD 4 4]) (.ret)) (.skip))))) (q93c0)
@[simp] theorem q93c1R : type_of% (run_is q93c1.eq_1) := run_is rfl
def q93l0 : QCode := .seq (.ops [oK 10 3 9 8 3 0]) (.seq (.cond (.tmp 10) (.skip) (.exit 0)) (q93c1))
@[simp] theorem q93l0R : type_of% (run_is q93l0.eq_1) := run_is rfl
def q93c2 : QCode := .seq (.ops [oAB 4 4]) (.ret)
@[simp] theorem q93c2R : type_of% (run_is q93c2.eq_1) := run_is rfl
@[simp] def q93 : QFn := ⟨18, [(.tmp 4, 4)], .seq (.ops [oD 4 4]) (.seq (.seq (.ops [oA 7 0 26, oE 8 7 26 3, oAF 9 0 3]) (.block 0 (.loop q93l0))) (q93c2))⟩
theorem Cv93 : convF Tryz.f93 = some q93 := by kernel_rfl
abbrev Fn94 : FuncId := 94
@[simp] def q94 : QFn := ⟨11, [(.tmp 2, 4)], .seq (.ops [oY 1 35 0 0, oD 2 4]) (.seq (.ops [oF 3 35 1 0 0, oC 4 9 3 9, oH 5 85 4 9 4, oA 6 5 4, oAD 7 35 1 1 0 6, oAA 8 9 7 9 6, oAK 9 149 8 9 4 6, oP 10 6 9 4, oB 2 10 4]) (.ret))⟩
theorem Cv94 : convF Tryz.f94 = some q94 := by kernel_rfl
abbrev Fn95 : FuncId := 95
def q95c0 : QCode := .ops [oJ 17 3 9 1 3 3, oA 9 17 3]
@[simp] theorem q95c0R : type_of% (run_is q95c0.eq_1) := run_is rfl
def q95c1 : QCode := .seq (.block 1 (.seq (.ops [oS 11 27 7 9 0, oC 12 9 11 9, oB 6 12 9]) (.seq (.ops [oA 13 1 54, oA 14 6 9, oAJ 15 13 14 9 4, oT 16 4 15 4]) (.cond (.tmp 16) (.seq (.ops [oD 4 4]) (.ret)) (.skip))))) (q95c0)
@[simp] theorem q95c1R : type_of% (run_is q95c1.eq_1) := run_is rfl
def q95l0 : QCode := .seq (.ops [oK 10 3 9 8 3 0]) (.seq (.cond (.tmp 10) (.skip) (.exit 0)) (q95c1))
@[simp] theorem q95l0R : type_of% (run_is q95l0.eq_1) := run_is rfl
def q95c2 : QCode := .seq (.ops [oAB 4 4]) (.ret)
@[simp] theorem q95c2R : type_of% (run_is q95c2.eq_1) := run_is rfl
@[simp] def q95 : QFn := ⟨18, [(.tmp 4, 4)], .seq (.ops [oD 4 4]) (.seq (.seq (.ops [oA 7 0 27, oE 8 7 27 3, oAF 9 0 3]) (.block 0 (.loop q95l0))) (q95c2))⟩
theorem Cv95 : convF Tryz.f95 = some q95 := by kernel_rfl
abbrev Fn96 : FuncId := 96
@[simp] def q96 : QFn := ⟨9, [(.tmp 2, 4)], .seq (.ops [oD 2 4]) (.seq (.ops [oA 3 0 9, ⟨some 4, .binOp .neq 9 (.tmp 3) (.const (.string { data := #[] })) 9, 4, none⟩, oA 5 4 4, oO 6 0 9 5, oAK 7 150 6 9 4 5, oP 8 5 7 4, oB 2 8 4]) (.ret))⟩
theorem Cv96 : convF Tryz.f96 = some q96 := by kernel_rfl
abbrev Fn97 : FuncId := 97
@[simp] def q97 : QFn := ⟨5, [(.tmp 2, 9)], .seq (.ops [oY 1 33 0 0, oL 2 9]) (.seq (.ops [oF 3 33 1 0 0, oC 4 9 3 9, oB 2 4 9]) (.ret))⟩
theorem Cv97 : convF Tryz.f97 = some q97 := by kernel_rfl
abbrev Fn98 : FuncId := 98
@[simp] def q98 : QFn := ⟨5, [(.tmp 2, 9)], .seq (.ops [oY 1 97 0 0, oL 2 9]) (.seq (.ops [oF 3 97 1 0 0, oC 4 9 3 9, oB 2 4 9]) (.ret))⟩
theorem Cv98 : convF Tryz.f98 = some q98 := by kernel_rfl
abbrev Fn99 : FuncId := 99
@[simp] def q99 : QFn := ⟨5, [(.tmp 2, 9)], .seq (.ops [oY 1 35 0 0, oL 2 9]) (.seq (.ops [oF 3 35 1 0 0, oC 4 9 3 9, oB 2 4 9]) (.ret))⟩
theorem Cv99 : convF Tryz.f99 = some q99 := by kernel_rfl
abbrev Fn100 : FuncId := 100
def q100c0 : QCode := .ops [oA 23 7 27, oA 24 1 123, oC 25 33 9 33, oAJ 26 24 25 33 9, oZ 27 27 1 0 26 27, oV 28 23 27 27 27 27, oB 7 28 27]
@[simp] theorem q100c0R : type_of% (run_is q100c0.eq_1) := run_is rfl
def q100c1 : QCode := .ops [oJ 29 3 14 1 3 3, oA 14 29 3]
@[simp] theorem q100c1R : type_of% (run_is q100c1.eq_1) := run_is rfl
def q100c2 : QCode := .seq (.block 1 (.seq (.ops [oS 16 23 12 14 0, oC 17 33 16 33, oR 9 33 0, oM 33 9 17 0]) (.seq (.seq (.ops [oA 18 7 27, oA 19 1 123, oC 20 33 9 33, oAJ 21 19 20 33 9, oU 22 152 18 21 27 9 4]) (.cond (.tmp 22) (.seq (.ops [oAB 6 4]) (.ret)) (.skip))) (q100c0)))) (q100c1)
@[simp] theorem q100c2R : type_of% (run_is q100c2.eq_1) := run_is rfl
def q100l0 : QCode := .seq (.ops [oK 15 3 14 13 3 0]) (.seq (.cond (.tmp 15) (.skip) (.exit 0)) (q100c2))
@[simp] theorem q100l0R : type_of% (run_is q100l0.eq_1) := run_is rfl
def q100c3 : QCode := .seq (.ops [oD 6 4]) (.ret)
@[simp] theorem q100c3R : type_of% (run_is q100c3.eq_1) := run_is rfl
@[simp] def q100 : QFn := ⟨30, [(.tmp 6, 4)], .seq (.ops [oD 6 4]) (.seq (.ops [oA 10 2 27, oH 11 151 10 27 27, oB 7 11 27]) (.seq (.seq (.ops [oA 12 0 23, oE 13 12 23 3, oAF 14 0 3]) (.block 0 (.loop q100l0))) (q100c3)))⟩
theorem Cv100 : convF Tryz.f100 = some q100 := by kernel_rfl
abbrev Fn101 : FuncId := 101
def q101c0 : QCode := .ops [oA 23 7 27, oA 24 1 95, oC 25 94 9 94, oAJ 26 24 25 94 9, oZ 27 27 1 0 26 27, oV 28 23 27 27 27 27, oB 7 28 27]
@[simp] theorem q101c0R : type_of% (run_is q101c0.eq_1) := run_is rfl
def q101c1 : QCode := .ops [oJ 29 3 14 1 3 3, oA 14 29 3]
@[simp] theorem q101c1R : type_of% (run_is q101c1.eq_1) := run_is rfl
def q101c2 : QCode := .seq (.block 1 (.seq (.ops [oS 16 24 12 14 0, oC 17 94 16 94, oR 9 94 0, oM 94 9 17 0]) (.seq (.seq (.ops [oA 18 7 27, oA 19 1 95, oC 20 94 9 94, oAJ 21 19 20 94 9, oU 22 152 18 21 27 9 4]) (.cond (.tmp 22) (.seq (.ops [oAB 6 4]) (.ret)) (.skip))) (q101c0)))) (q101c1)
@[simp] theorem q101c2R : type_of% (run_is q101c2.eq_1) := run_is rfl
def q101l0 : QCode := .seq (.ops [oK 15 3 14 13 3 0]) (.seq (.cond (.tmp 15) (.skip) (.exit 0)) (q101c2))
@[simp] theorem q101l0R : type_of% (run_is q101l0.eq_1) := run_is rfl
def q101c3 : QCode := .seq (.ops [oD 6 4]) (.ret)
@[simp] theorem q101c3R : type_of% (run_is q101c3.eq_1) := run_is rfl
@[simp] def q101 : QFn := ⟨30, [(.tmp 6, 4)], .seq (.ops [oD 6 4]) (.seq (.ops [oA 10 2 27, oH 11 151 10 27 27, oB 7 11 27]) (.seq (.seq (.ops [oA 12 0 24, oE 13 12 24 3, oAF 14 0 3]) (.block 0 (.loop q101l0))) (q101c3)))⟩
theorem Cv101 : convF Tryz.f101 = some q101 := by kernel_rfl
abbrev Fn102 : FuncId := 102
@[simp] def q102 : QFn := ⟨5, [(.tmp 2, 9)], .seq (.ops [oY 1 94 0 0, oL 2 9]) (.seq (.ops [oF 3 94 1 0 0, oC 4 9 3 9, oB 2 4 9]) (.ret))⟩
theorem Cv102 : convF Tryz.f102 = some q102 := by kernel_rfl
abbrev Fn103 : FuncId := 103
def q103c0 : QCode := .ops [oA 23 7 27, oA 24 1 124, oC 25 97 9 97, oAJ 26 24 25 97 9, oZ 27 27 1 0 26 27, oV 28 23 27 27 27 27, oB 7 28 27]
@[simp] theorem q103c0R : type_of% (run_is q103c0.eq_1) := run_is rfl
def q103c1 : QCode := .ops [oJ 29 3 14 1 3 3, oA 14 29 3]
@[simp] theorem q103c1R : type_of% (run_is q103c1.eq_1) := run_is rfl
def q103c2 : QCode := .seq (.block 1 (.seq (.ops [oS 16 25 12 14 0, oC 17 97 16 97, oR 9 97 0, oM 97 9 17 0]) (.seq (.seq (.ops [oA 18 7 27, oA 19 1 124, oC 20 97 9 97, oAJ 21 19 20 97 9, oU 22 152 18 21 27 9 4]) (.cond (.tmp 22) (.seq (.ops [oAB 6 4]) (.ret)) (.skip))) (q103c0)))) (q103c1)
@[simp] theorem q103c2R : type_of% (run_is q103c2.eq_1) := run_is rfl
def q103l0 : QCode := .seq (.ops [oK 15 3 14 13 3 0]) (.seq (.cond (.tmp 15) (.skip) (.exit 0)) (q103c2))
@[simp] theorem q103l0R : type_of% (run_is q103l0.eq_1) := run_is rfl
def q103c3 : QCode := .seq (.ops [oD 6 4]) (.ret)
@[simp] theorem q103c3R : type_of% (run_is q103c3.eq_1) := run_is rfl
@[simp] def q103 : QFn := ⟨30, [(.tmp 6, 4)], .seq (.ops [oD 6 4]) (.seq (.ops [oA 10 2 27, oH 11 151 10 27 27, oB 7 11 27]) (.seq (.seq (.ops [oA 12 0 25, oE 13 12 25 3, oAF 14 0 3]) (.block 0 (.loop q103l0))) (q103c3)))⟩
theorem Cv103 : convF Tryz.f103 = some q103 := by kernel_rfl
abbrev Fn104 : FuncId := 104
def q104c0 : QCode := .ops [oA 23 7 27, oA 24 1 125, oC 25 35 9 35, oAJ 26 24 25 35 9, oZ 27 27 1 0 26 27, oV 28 23 27 27 27 27, oB 7 28 27]
@[simp] theorem q104c0R : type_of% (run_is q104c0.eq_1) := run_is rfl
def q104c1 : QCode := .ops [oJ 29 3 14 1 3 3, oA 14 29 3]
@[simp] theorem q104c1R : type_of% (run_is q104c1.eq_1) := run_is rfl
def q104c2 : QCode := .seq (.block 1 (.seq (.ops [oS 16 26 12 14 0, oC 17 35 16 35, oR 9 35 0, oM 35 9 17 0]) (.seq (.seq (.ops [oA 18 7 27, oA 19 1 125, oC 20 35 9 35, oAJ 21 19 20 35 9, oU 22 152 18 21 27 9 4]) (.cond (.tmp 22) (.seq (.ops [oAB 6 4]) (.ret)) (.skip))) (q104c0)))) (q104c1)
@[simp] theorem q104c2R : type_of% (run_is q104c2.eq_1) := run_is rfl
def q104l0 : QCode := .seq (.ops [oK 15 3 14 13 3 0]) (.seq (.cond (.tmp 15) (.skip) (.exit 0)) (q104c2))
@[simp] theorem q104l0R : type_of% (run_is q104l0.eq_1) := run_is rfl
def q104c3 : QCode := .seq (.ops [oD 6 4]) (.ret)
@[simp] theorem q104c3R : type_of% (run_is q104c3.eq_1) := run_is rfl
@[simp] def q104 : QFn := ⟨30, [(.tmp 6, 4)], .seq (.ops [oD 6 4]) (.seq (.ops [oA 10 2 27, oH 11 151 10 27 27, oB 7 11 27]) (.seq (.seq (.ops [oA 12 0 26, oE 13 12 26 3, oAF 14 0 3]) (.block 0 (.loop q104l0))) (q104c3)))⟩
theorem Cv104 : convF Tryz.f104 = some q104 := by kernel_rfl
abbrev Fn105 : FuncId := 105
@[simp] def q105 : QFn := ⟨13, [(.tmp 2, 23)], .seq (.ops [oY 1 29 0 0, oX 2 23]) (.seq (.ops [oF 3 29 1 0 0, oC 4 9 3 9, ⟨some 5, .build 33 #[(0, .const (.string { data := #[110, 97, 109, 101] })), (1, .tmp 4)], 33, none⟩, oF 6 29 1 1 0, oC 7 9 6 9, ⟨some 8, .build 33 #[(0, .const (.string { data := #[118, 101, 114, 115, 105, 111, 110] })), (1, .tmp 7)], 33, none⟩, ⟨some 9, .buildSlice 23 2 #[(0, .tmp 5), (1, .tmp 8)], 23, none⟩, oF 10 29 1 2 0, oC 11 23 10 23, oV 12 9 11 23 23 23, oB 2 12 23]) (.ret))⟩
theorem Cv105 : convF Tryz.f105 = some q105 := by kernel_rfl
abbrev Fn106 : FuncId := 106
def q106c0 : QCode := .seq (.ops [oA 34 8 9, oB 4 34 9, oG 5 0 3]) (.ret)
@[simp] theorem q106c0R : type_of% (run_is q106c0.eq_1) := run_is rfl
def q106c1 : QCode := .seq (.ops [oA 23 0 23, ⟨some 24, .build 172 #[(0, .tmp 23)], 172, none⟩, oR 7 172 0, oM 172 7 24 0]) (.seq (.ops [oA 26 1 9, oU 27 155 7 26 172 9 173, oA 25 27 173, oQ 28 25 0 9, oQ 29 25 1 88, oB 8 28 9, oB 9 29 88]) (.seq (.seq (.ops [oA 30 9 88, ⟨some 31, .binOp .neq 88 (.tmp 30) (.const .nilIface) 88, 4, none⟩]) (.cond (.tmp 31) (.seq (.ops [oA 32 9 88, oH 33 156 32 88 3, oL 4 9, oB 5 33 3]) (.ret)) (.skip))) (q106c0)))
@[simp] theorem q106c1R : type_of% (run_is q106c1.eq_1) := run_is rfl
@[simp] def q106 : QFn := ⟨35, [(.tmp 4, 9), (.tmp 5, 3)], .seq (.ops [oL 4 9, oG 5 0 3]) (.seq (.ops [⟨some 6, .assign (.func 153), 115, none⟩]) (.seq (.seq (.ops [oA 10 0 23, oE 11 10 23 3, oAI 12 3 11 8 3 4, oA 13 12 4, oI 14 0 23 13, oI 15 6 115 13, ⟨some 16, .call { callee := .value (.func 154), args := #[.tmp 14, .tmp 15], argTypes := #[23, 115] }, 4, some (13, false)⟩, oN 17 13 16 4, oA 18 17 4, oI 19 1 9 18, oAM 20 96 19 9 4 18, ⟨some 21, .unOp .not 4 (.tmp 20), 4, some (18, false)⟩, oN 22 18 21 4]) (.cond (.tmp 22) (.seq (.ops [oL 4 9, oG 5 1 3]) (.ret)) (.skip))) (q106c1)))⟩
theorem Cv106 : convF Tryz.f106 = some q106 := by kernel_rfl
abbrev Fn107 : FuncId := 107
def q107c0 : QCode := .ops [oA 8 3 3, oJ 9 3 8 1 3 3, oB 3 9 3]
@[simp] theorem q107c0R : type_of% (run_is q107c0.eq_1) := run_is rfl
def q107c1 : QCode := .seq (.block 1 (.seq (.ops [oA 10 0 9, oA 11 3 3, oAG 12 9 10 11 5, oH 13 157 12 5 4, oT 14 4 13 4]) (.cond (.tmp 14) (.seq (.ops [oD 2 4]) (.ret)) (.skip)))) (q107c0)
@[simp] theorem q107c1R : type_of% (run_is q107c1.eq_1) := run_is rfl
def q107l0 : QCode := .seq (.seq (.ops [oA 4 3 3, oA 5 0 9, oE 6 5 9 3, oK 7 3 4 6 3 4]) (.cond (.tmp 7) (.skip) (.exit 0))) (q107c1)
@[simp] theorem q107l0R : type_of% (run_is q107l0.eq_1) := run_is rfl
def q107c2 : QCode := .seq (.ops [oA 15 0 9, oE 16 15 9 3, oAW 17 158 16 1 10 3 3 3 4, oA 18 17 4, oO 19 0 9 18, ⟨some 20, .binOp .neq 9 (.tmp 19) (.const (.string { data := #[46] })) 9, 4, some (18, true)⟩, oP 21 18 20 4, oA 22 21 4, oO 23 0 9 22, ⟨some 24, .binOp .neq 9 (.tmp 23) (.const (.string { data := #[46, 46] })) 9, 4, some (22, true)⟩, oP 25 22 24 4, oB 2 25 4]) (.ret)
@[simp] theorem q107c2R : type_of% (run_is q107c2.eq_1) := run_is rfl
@[simp] def q107 : QFn := ⟨26, [(.tmp 2, 4)], .seq (.ops [oD 2 4]) (.seq (.seq (.ops [oG 3 0 3]) (.block 0 (.loop q107l0))) (q107c2))⟩
theorem Cv107 : convF Tryz.f107 = some q107 := by kernel_rfl
abbrev Fn108 : FuncId := 108
def q108c0 : QCode := .ops [oA 8 3 3, oJ 9 3 8 1 3 3, oB 3 9 3]
@[simp] theorem q108c0R : type_of% (run_is q108c0.eq_1) := run_is rfl
def q108c1 : QCode := .seq (.block 1 (.seq (.ops [oA 10 0 9, oA 11 3 3, oAG 12 9 10 11 5, ⟨some 13, .binOp .geq 5 (.tmp 12) (.const (.int .u8 48)) 5, 4, none⟩, oA 14 13 4, oO 15 0 9 14, oO 16 3 3 14, ⟨some 17, .index 9 (.tmp 15) (.tmp 16), 5, some (14, true)⟩, oAT 18 5 17 57 5 4 14, oP 19 14 18 4, oA 20 19 4, oI 21 0 9 20, oI 22 3 3 20, oAO 23 9 21 22 5 20, ⟨some 24, .binOp .geq 5 (.tmp 23) (.const (.int .u8 97)) 5, 4, some (20, false)⟩, oI 25 24 4 20, oO 26 0 9 25, oO 27 3 3 25, ⟨some 28, .index 9 (.tmp 26) (.tmp 27), 5, some (25, true)⟩, oAT 29 5 28 102 5 4 25, ⟨some 30, .pick (.tmp 25) (.tmp 29) (.const (.bool false)), 4, some (20, false)⟩, oN 31 20 30 4, oT 32 4 31 4]) (.cond (.tmp 32) (.seq (.ops [oD 2 4]) (.ret)) (.skip)))) (q108c0)
@[simp] theorem q108c1R : type_of% (run_is q108c1.eq_1) := run_is rfl
def q108l0 : QCode := .seq (.seq (.ops [oA 4 3 3, oA 5 0 9, oE 6 5 9 3, oK 7 3 4 6 3 4]) (.cond (.tmp 7) (.skip) (.exit 0))) (q108c1)
@[simp] theorem q108l0R : type_of% (run_is q108l0.eq_1) := run_is rfl
def q108c2 : QCode := .seq (.ops [oA 33 0 9, oE 34 33 9 3, oW 35 3 34 16 3 4, oB 2 35 4]) (.ret)
@[simp] theorem q108c2R : type_of% (run_is q108c2.eq_1) := run_is rfl
@[simp] def q108 : QFn := ⟨36, [(.tmp 2, 4)], .seq (.ops [oD 2 4]) (.seq (.seq (.ops [oG 3 0 3]) (.block 0 (.loop q108l0))) (q108c2))⟩
theorem Cv108 : convF Tryz.f108 = some q108 := by kernel_rfl
abbrev Fn109 : FuncId := 109
def q109c0 : QCode := .ops [oA 9 3 3, oJ 10 3 9 1 3 3, oB 3 10 3]
@[simp] theorem q109c0R : type_of% (run_is q109c0.eq_1) := run_is rfl
def q109c1 : QCode := .seq (.block 1 (.seq (.ops [oA 11 0 9, oA 12 3 3, oAG 13 9 11 12 5, ⟨some 14, .binOp .geq 5 (.tmp 13) (.const (.int .u8 97)) 5, 4, none⟩, oA 15 14 4, oO 16 0 9 15, oO 17 3 3 15, ⟨some 18, .index 9 (.tmp 16) (.tmp 17), 5, some (15, true)⟩, oAT 19 5 18 122 5 4 15, oP 20 15 19 4, oB 4 20 4]) (.seq (.ops [oA 21 4 4, oT 22 4 21 4, oA 23 22 4, oO 24 3 3 23, ⟨some 25, .binOp .eql 3 (.tmp 24) (.const (.int .i64 0)) 3, 4, some (23, true)⟩, oO 26 25 4 23, oI 27 0 9 26, oI 28 3 3 26, oAO 29 9 27 28 5 26, ⟨some 30, .binOp .lss 5 (.tmp 29) (.const (.int .u8 48)) 5, 4, some (26, false)⟩, ⟨some 31, .pick (.tmp 26) (.const (.bool true)) (.tmp 30), 4, some (23, true)⟩, oO 32 31 4 23, oI 33 0 9 32, oI 34 3 3 32, oAO 35 9 33 34 5 32, oAS 36 5 35 57 5 4 32, ⟨some 37, .pick (.tmp 32) (.const (.bool true)) (.tmp 36), 4, some (23, true)⟩, oP 38 23 37 4]) (.cond (.tmp 38) (.seq (.ops [oD 2 4]) (.ret)) (.skip))))) (q109c0)
@[simp] theorem q109c1R : type_of% (run_is q109c1.eq_1) := run_is rfl
def q109l0 : QCode := .seq (.seq (.ops [oA 5 3 3, oA 6 0 9, oE 7 6 9 3, oK 8 3 5 7 3 4]) (.cond (.tmp 8) (.skip) (.exit 0))) (q109c1)
@[simp] theorem q109l0R : type_of% (run_is q109l0.eq_1) := run_is rfl
def q109c2 : QCode := .seq (.ops [oA 39 0 9, oE 40 39 9 3, oAW 41 158 40 1 10 3 3 3 4, oB 2 41 4]) (.ret)
@[simp] theorem q109c2R : type_of% (run_is q109c2.eq_1) := run_is rfl
@[simp] def q109 : QFn := ⟨42, [(.tmp 2, 4)], .seq (.ops [oD 2 4]) (.seq (.seq (.ops [oG 3 0 3]) (.block 0 (.loop q109l0))) (q109c2))⟩
theorem Cv109 : convF Tryz.f109 = some q109 := by kernel_rfl
abbrev Fn110 : FuncId := 110
def q110c0 : QCode := .ops [oA 14 4 3, oJ 15 3 14 1 3 3, oB 4 15 3]
@[simp] theorem q110c0R : type_of% (run_is q110c0.eq_1) := run_is rfl
def q110c1 : QCode := .seq (.block 1 (.seq (.ops [oA 16 3 27, oA 17 4 3, oS 18 27 16 17 0, oC 19 9 18 9, oH 20 159 19 9 4, oT 21 4 20 4]) (.cond (.tmp 21) (.seq (.ops [oD 2 4]) (.ret)) (.skip)))) (q110c0)
@[simp] theorem q110c1R : type_of% (run_is q110c1.eq_1) := run_is rfl
def q110l0 : QCode := .seq (.seq (.ops [oA 10 4 3, oA 11 3 27, oE 12 11 27 3, oK 13 3 10 12 3 4]) (.cond (.tmp 13) (.skip) (.exit 0))) (q110c1)
@[simp] theorem q110l0R : type_of% (run_is q110l0.eq_1) := run_is rfl
def q110c2 : QCode := .seq (.ops [oA 22 3 27, oE 23 22 27 3, ⟨some 24, .binOp .leq 3 (.tmp 23) (.const (.int .i64 5)) 3, 4, none⟩, oA 25 24 4, oO 26 0 9 25, oAU 27 26 9 3 25, ⟨some 28, .binOp .leq 3 (.tmp 27) (.const (.int .i64 40)) 3, 4, some (25, true)⟩, oP 29 25 28 4, oB 2 29 4]) (.ret)
@[simp] theorem q110c2R : type_of% (run_is q110c2.eq_1) := run_is rfl
@[simp] def q110 : QFn := ⟨30, [(.tmp 2, 4)], .seq (.ops [oD 2 4]) (.seq (.ops [oA 5 0 9, oA 6 0 9, oE 7 6 9 3, oJ 8 3 7 1 3 3, ⟨some 9, .call { callee := .value (.func 67), args := #[.tmp 5, .const (.int .u8 47), .tmp 8], argTypes := #[9, 5, 3] }, 27, none⟩, oB 3 9 27]) (.seq (.seq (.ops [oG 4 0 3]) (.block 0 (.loop q110l0))) (q110c2)))⟩
theorem Cv110 : convF Tryz.f110 = some q110 := by kernel_rfl
abbrev Fn111 : FuncId := 111
def q111c0 : QCode := .ops [oA 8 3 3, oJ 9 3 8 1 3 3, oB 3 9 3]
@[simp] theorem q111c0R : type_of% (run_is q111c0.eq_1) := run_is rfl
def q111c1 : QCode := .seq (.block 1 (.seq (.ops [oA 10 0 9, oA 11 3 3, oAG 12 9 10 11 5, ⟨some 13, .convert 5 3 (.tmp 12), 3, none⟩, oAW 14 158 13 32 126 3 3 3 4, oT 15 4 14 4]) (.cond (.tmp 15) (.seq (.ops [oD 2 4]) (.ret)) (.skip)))) (q111c0)
@[simp] theorem q111c1R : type_of% (run_is q111c1.eq_1) := run_is rfl
def q111l0 : QCode := .seq (.seq (.ops [oA 4 3 3, oA 5 0 9, oE 6 5 9 3, oK 7 3 4 6 3 4]) (.cond (.tmp 7) (.skip) (.exit 0))) (q111c1)
@[simp] theorem q111l0R : type_of% (run_is q111l0.eq_1) := run_is rfl
def q111c2 : QCode := .seq (.ops [oA 16 0 9, oE 17 16 9 3, oAW 18 158 17 1 80 3 3 3 4, oB 2 18 4]) (.ret)
@[simp] theorem q111c2R : type_of% (run_is q111c2.eq_1) := run_is rfl
@[simp] def q111 : QFn := ⟨19, [(.tmp 2, 4)], .seq (.ops [oD 2 4]) (.seq (.seq (.ops [oG 3 0 3]) (.block 0 (.loop q111l0))) (q111c2))⟩
theorem Cv111 : convF Tryz.f111 = some q111 := by kernel_rfl
abbrev Fn112 : FuncId := 112
@[simp] def q112 : QFn := ⟨11, [(.tmp 2, 4)], .seq (.ops [oD 2 4]) (.seq (.ops [oA 6 0 9, oH 7 160 6 9 178, oA 5 7 178, oQ 8 5 0 166, oQ 9 5 1 4, oB 3 8 166, oB 4 9 4]) (.seq (.ops [oA 10 4 4, oB 2 10 4]) (.ret)))⟩
theorem Cv112 : convF Tryz.f112 = some q112 := by kernel_rfl
abbrev Fn113 : FuncId := 113
def q113c0 : QCode := .ops [oA 8 3 3, oJ 9 3 8 1 3 3, oB 3 9 3]
@[simp] theorem q113c0R : type_of% (run_is q113c0.eq_1) := run_is rfl
def q113c1 : QCode := .seq (.block 1 (.seq (.ops [oA 10 0 23, oA 11 3 3, oS 12 23 10 11 0, oF 13 33 12 0 0, oC 14 9 13 9, oH 15 109 14 9 4, oT 16 4 15 4, oA 17 16 4, oI 18 0 23 17, oI 19 3 3 17, ⟨some 20, .indexAddr 23 (.tmp 18) (.tmp 19), 0, some (17, false)⟩, oAH 21 33 20 1 0 17, oAE 22 9 21 9 17, oAM 23 111 22 9 4 17, ⟨some 24, .unOp .not 4 (.tmp 23), 4, some (17, false)⟩, oN 25 17 24 4]) (.cond (.tmp 25) (.seq (.ops [oD 2 4]) (.ret)) (.skip)))) (q113c0)
@[simp] theorem q113c1R : type_of% (run_is q113c1.eq_1) := run_is rfl
def q113l0 : QCode := .seq (.seq (.ops [oA 4 3 3, oA 5 0 23, oE 6 5 23 3, oK 7 3 4 6 3 4]) (.cond (.tmp 7) (.skip) (.exit 0))) (q113c1)
@[simp] theorem q113l0R : type_of% (run_is q113l0.eq_1) := run_is rfl
def q113c2 : QCode := .seq (.ops [oA 26 0 23, oE 27 26 23 3, ⟨some 28, .binOp .leq 3 (.tmp 27) (.const (.int .i64 8)) 3, 4, none⟩, oB 2 28 4]) (.ret)
@[simp] theorem q113c2R : type_of% (run_is q113c2.eq_1) := run_is rfl
@[simp] def q113 : QFn := ⟨29, [(.tmp 2, 4)], .seq (.ops [oD 2 4]) (.seq (.seq (.ops [oG 3 0 3]) (.block 0 (.loop q113l0))) (q113c2))⟩
theorem Cv113 : convF Tryz.f113 = some q113 := by kernel_rfl
abbrev Fn114 : FuncId := 114
def q114c0 : QCode := .ops [oA 8 3 3, oJ 9 3 8 1 3 3, oB 3 9 3]
@[simp] theorem q114c0R : type_of% (run_is q114c0.eq_1) := run_is rfl
def q114c1 : QCode := .seq (.block 1 (.seq (.ops [oA 10 0 24, oA 11 3 3, oS 12 24 10 11 0, oC 13 94 12 94, oH 14 161 13 94 4, oT 15 4 14 4]) (.cond (.tmp 15) (.seq (.ops [oD 2 4]) (.ret)) (.skip)))) (q114c0)
@[simp] theorem q114c1R : type_of% (run_is q114c1.eq_1) := run_is rfl
def q114l0 : QCode := .seq (.seq (.ops [oA 4 3 3, oA 5 0 24, oE 6 5 24 3, oK 7 3 4 6 3 4]) (.cond (.tmp 7) (.skip) (.exit 0))) (q114c1)
@[simp] theorem q114l0R : type_of% (run_is q114l0.eq_1) := run_is rfl
def q114c2 : QCode := .seq (.ops [oA 16 0 24, oE 17 16 24 3, ⟨some 18, .binOp .leq 3 (.tmp 17) (.const (.int .i64 6)) 3, 4, none⟩, oB 2 18 4]) (.ret)
@[simp] theorem q114c2R : type_of% (run_is q114c2.eq_1) := run_is rfl
@[simp] def q114 : QFn := ⟨19, [(.tmp 2, 4)], .seq (.ops [oD 2 4]) (.seq (.seq (.ops [oG 3 0 3]) (.block 0 (.loop q114l0))) (q114c2))⟩
theorem Cv114 : convF Tryz.f114 = some q114 := by kernel_rfl
abbrev Fn115 : FuncId := 115
def q115c0 : QCode := .ops [oA 14 4 3, oJ 15 3 14 1 3 3, oB 4 15 3]
@[simp] theorem q115c0R : type_of% (run_is q115c0.eq_1) := run_is rfl
def q115c1 : QCode := .seq (.block 3 (.seq (.draw [] [⟨some 16, .move (.tmp 0), 27, none⟩, ⟨some 17, .move (.tmp 4), 3, none⟩, ⟨some 18, .indexAddr 27 (.tmp 16) (.tmp 17), 0, none⟩, ⟨some 19, .load 9 (.tmp 18), 9, none⟩, ⟨some 20, .move (.tmp 0), 27, none⟩, ⟨some 21, .move (.tmp 3), 3, none⟩, ⟨some 22, .indexAddr 27 (.tmp 20) (.tmp 21), 0, none⟩, ⟨some 23, .load 9 (.tmp 22), 9, none⟩] [⟨some 24, .binOp .eql 9 (.tmp 19) (.tmp 23) 9, 4, none⟩]) (.cond (.tmp 24) (.seq (.ops [oAB 2 4]) (.ret)) (.skip)))) (q115c0)
@[simp] theorem q115c1R : type_of% (run_is q115c1.eq_1) := run_is rfl
def q115l0 : QCode := .seq (.seq (.ops [oA 11 4 3, oA 12 3 3, oK 13 3 11 12 3 4]) (.cond (.tmp 13) (.skip) (.exit 2))) (q115c1)
@[simp] theorem q115l0R : type_of% (run_is q115l0.eq_1) := run_is rfl
def q115c2 : QCode := .ops [oA 9 3 3, oJ 10 3 9 1 3 3, oB 3 10 3]
@[simp] theorem q115c2R : type_of% (run_is q115c2.eq_1) := run_is rfl
def q115c3 : QCode := .seq (.block 1 (.seq (.ops [oG 4 0 3]) (.block 2 (.loop q115l0)))) (q115c2)
@[simp] theorem q115c3R : type_of% (run_is q115c3.eq_1) := run_is rfl
def q115l1 : QCode := .seq (.seq (.ops [oA 5 3 3, oA 6 0 27, oE 7 6 27 3, oK 8 3 5 7 3 4]) (.cond (.tmp 8) (.skip) (.exit 0))) (q115c3)
@[simp] theorem q115l1R : type_of% (run_is q115l1.eq_1) := run_is rfl
def q115c4 : QCode := .seq (.ops [oD 2 4]) (.ret)
@[simp] theorem q115c4R : type_of% (run_is q115c4.eq_1) := run_is rfl
@[simp] def q115 : QFn := ⟨25, [(.tmp 2, 4)], .seq (.ops [oD 2 4]) (.seq (.seq (.ops [oG 3 0 3]) (.block 0 (.loop q115l1))) (q115c4))⟩
theorem Cv115 : convF Tryz.f115 = some q115 := by kernel_rfl
abbrev Fn116 : FuncId := 116
def q116c0 : QCode := .ops [oA 10 5 3, oJ 11 3 10 1 3 3, oB 5 11 3]
@[simp] theorem q116c0R : type_of% (run_is q116c0.eq_1) := run_is rfl
def q116c1 : QCode := .seq (.block 1 (.seq (.ops [oA 12 0 9, oA 13 5 3, oAG 14 9 12 13 5, ⟨some 15, .binOp .eql 5 (.tmp 14) (.const (.int .u8 125)) 5, 4, none⟩]) (.cond (.tmp 15) (.seq (.seq (.ice [0, 0, 0]) (.draw [] [⟨some 16, .move (.tmp 0), 9, none⟩, ⟨some 17, .move (.tmp 5), 3, none⟩, ⟨some 18, .slice 9 (.tmp 16) (some (.const (.int .i64 2))) (some (.tmp 17)) none, 9, none⟩, ⟨some 19, .move (.tmp 0), 9, none⟩, ⟨some 20, .move (.tmp 5), 3, none⟩, ⟨some 23, .move (.tmp 0), 9, none⟩, ⟨some 24, .move (.tmp 5), 3, none⟩, ⟨some 25, .slice 9 (.tmp 23) (some (.const (.int .i64 2))) (some (.tmp 24)) none, 9, none⟩, ⟨some 21, .binOp .add 3 (.tmp 20) (.const (.int .i64 1)) 3, 3, none⟩, ⟨some 22, .slice 9 (.tmp 19) (some (.tmp 21)) none none, 9, none⟩, ⟨some 26, .call { callee := .value (.func 109), args := #[.tmp 25], argTypes := #[9] }, 4, none⟩, ⟨some 2, .assign (.tmp 18), 9, none⟩] [⟨some 3, .assign (.tmp 22), 9, none⟩, ⟨some 4, .assign (.tmp 26), 4, none⟩])) (.ret)) (.skip)))) (q116c0)
@[simp] theorem q116c1R : type_of% (run_is q116c1.eq_1) := run_is rfl
def q116l0 : QCode := .seq (.seq (.ops [oA 6 5 3, oA 7 0 9, oE 8 7 9 3, oK 9 3 6 8 3 4]) (.cond (.tmp 9) (.skip) (.exit 0))) (q116c1)
@[simp] theorem q116l0R : type_of% (run_is q116l0.eq_1) := run_is rfl
def q116c2 : QCode := .seq (.ops [oL 2 9, oL 3 9, oD 4 4]) (.ret)
@[simp] theorem q116c2R : type_of% (run_is q116c2.eq_1) := run_is rfl
@[simp] def q116 : QFn := ⟨27, [(.tmp 2, 9), (.tmp 3, 9), (.tmp 4, 4)], .seq (.ops [oL 2 9, oL 3 9, oD 4 4]) (.seq (.seq (.ops [oG 5 2 3]) (.block 0 (.loop q116l0))) (q116c2))⟩
theorem Cv116 : convF Tryz.f116 = some q116 := by kernel_rfl
abbrev Fn117 : FuncId := 117
def q117c0 : QCode := .ops [oA 10 5 3, oJ 11 3 10 1 3 3, oB 5 11 3]
@[simp] theorem q117c0R : type_of% (run_is q117c0.eq_1) := run_is rfl
def q117c1 : QCode := .seq (.block 1 (.seq (.ops [oA 12 0 23, oA 13 5 3, oS 14 23 12 13 0, oF 15 33 14 0 0, oC 16 9 15 9, oA 17 1 9, ⟨some 18, .binOp .eql 9 (.tmp 16) (.tmp 17) 9, 4, none⟩]) (.cond (.tmp 18) (.seq (.ops [oA 19 5 3, oB 4 19 3]) (.ret)) (.skip)))) (q117c0)
@[simp] theorem q117c1R : type_of% (run_is q117c1.eq_1) := run_is rfl
def q117l0 : QCode := .seq (.seq (.ops [oA 6 5 3, oA 7 0 23, oE 8 7 23 3, oK 9 3 6 8 3 4]) (.cond (.tmp 9) (.skip) (.exit 0))) (q117c1)
@[simp] theorem q117l0R : type_of% (run_is q117l0.eq_1) := run_is rfl
def q117c2 : QCode := .seq (.ops [⟨some 4, .assign (.const (.int .i64 (-1))), 3, none⟩]) (.ret)
@[simp] theorem q117c2R : type_of% (run_is q117c2.eq_1) := run_is rfl
@[simp] def q117 : QFn := ⟨20, [(.tmp 4, 3)], .seq (.ops [oG 4 0 3]) (.seq (.seq (.ops [oG 5 0 3]) (.block 0 (.loop q117l0))) (q117c2))⟩
theorem Cv117 : convF Tryz.f117 = some q117 := by kernel_rfl
abbrev Fn139 : FuncId := 139
@[simp] def q139 : QFn := ⟨6, [(.tmp 2, 9)], .seq (.ops [oL 2 9]) (.seq (.ops [oA 3 0 58, ⟨some 4, .buildSlice 27 8 #[(0, .const (.string { data := #[49] })), (1, .const (.string { data := #[49, 46, 48] })), (2, .const (.string { data := #[49, 46, 49] })), (3, .const (.string { data := #[49, 46, 50] })), (4, .const (.string { data := #[50] })), (5, .const (.string { data := #[48, 46, 57, 46, 57] })), (6, .const (.string { data := #[49, 46, 49, 48] })), (7, .const (.string { data := #[57, 57, 57, 46, 57, 57, 57, 46, 57, 57, 57, 46, 57, 57, 57] }))], 27, none⟩, oU 5 79 3 4 58 27 9, oB 2 5 9]) (.ret))⟩
theorem Cv139 : convF Tryz.f139 = some q139 := by kernel_rfl
abbrev Fn140 : FuncId := 140
def q140c0 : QCode := .ops [oA 10 4 3, oAR 11 3 10 1 3 3, oB 4 11 3]
@[simp] theorem q140c0R : type_of% (run_is q140c0.eq_1) := run_is rfl
def q140c1 : QCode := .seq (.block 1 (.ops [oA 12 3 27, oA 13 0 58, oAX 14 27 16 0 1 2 3 4 5 6 7 8 9 10 11 12 13 14 15 27, oU 15 79 13 14 58 27 9, oZ 16 27 1 0 15 27, oV 17 12 16 27 27 27, oB 3 17 27])) (q140c0)
@[simp] theorem q140c1R : type_of% (run_is q140c1.eq_1) := run_is rfl
def q140l0 : QCode := .seq (.seq (.ops [oA 8 4 3, oAI 9 3 8 0 3 4]) (.cond (.tmp 9) (.skip) (.exit 0))) (q140c1)
@[simp] theorem q140l0R : type_of% (run_is q140l0.eq_1) := run_is rfl
def q140c2 : QCode := .seq (.ops [oA 18 3 27, oB 2 18 27]) (.ret)
@[simp] theorem q140c2R : type_of% (run_is q140c2.eq_1) := run_is rfl
@[simp] def q140 : QFn := ⟨19, [(.tmp 2, 27)], .seq (.ops [oX 2 27]) (.seq (.ops [⟨some 5, .buildSlice 27 0 #[], 27, none⟩, oB 3 5 27]) (.seq (.seq (.ops [oA 6 0 58, oAC 7 80 6 7 58 3 3, oB 4 7 3]) (.block 0 (.loop q140l0))) (q140c2)))⟩
theorem Cv140 : convF Tryz.f140 = some q140 := by kernel_rfl
abbrev Fn141 : FuncId := 141
def q141c0 : QCode := .seq (.ops [oA 26 3 23, oB 2 26 23]) (.ret)
@[simp] theorem q141c0R : type_of% (run_is q141c0.eq_1) := run_is rfl
def q141c1 : QCode := .seq (.seq (.ops [oA 15 0 58, oAC 16 80 15 2 58 3 3, oW 17 3 16 0 3 4]) (.cond (.tmp 17) (.ops [oA 18 3 23, oA 19 0 58, ⟨some 20, .call { callee := .value (.func 144), args := #[.const (.string { data := #[108] }), .const (.int .i64 80)], argTypes := #[9, 3] }, 9, none⟩, ⟨some 21, .buildSlice 27 5 #[(0, .const (.string { data := #[100, 111, 99] })), (1, .const (.string { data := #[108, 105, 98, 47, 36, 123, 110, 97, 109, 101, 125] })), (2, .const (.string { data := #[36, 123, 100, 105, 114, 125] })), (3, .const (.string { data := #[120] })), (4, .tmp 20)], 27, none⟩, oU 22 79 19 21 58 27 9, ⟨some 23, .build 33 #[(0, .const (.string { data := #[98, 97, 115, 101] })), (1, .tmp 22)], 33, none⟩, oZ 24 23 1 0 23 23, oV 25 18 24 23 23 23, oB 3 25 23]) (.skip))) (q141c0)
@[simp] theorem q141c1R : type_of% (run_is q141c1.eq_1) := run_is rfl
@[simp] def q141 : QFn := ⟨27, [(.tmp 2, 23)], .seq (.ops [oX 2 23]) (.seq (.ops [⟨some 4, .buildSlice 23 0 #[], 23, none⟩, oB 3 4 23]) (.seq (.seq (.ops [oA 5 0 58, oAC 6 80 5 2 58 3 3, oW 7 3 6 0 3 4]) (.cond (.tmp 7) (.ops [oA 8 3 23, oA 9 0 58, ⟨some 10, .buildSlice 27 4 #[(0, .const (.string { data := #[108, 105, 98] })), (1, .const (.string { data := #[97] })), (2, .const (.string { data := #[36, 123, 98, 97, 115, 101, 125] })), (3, .const (.string { data := #[36, 123, 110, 97, 109, 101, 125] }))], 27, none⟩, oU 11 79 9 10 58 27 9, ⟨some 12, .build 33 #[(0, .const (.string { data := #[100, 105, 114] })), (1, .tmp 11)], 33, none⟩, oZ 13 23 1 0 12 23, oV 14 8 13 23 23 23, oB 3 14 23]) (.skip))) (q141c1)))⟩
theorem Cv141 : convF Tryz.f141 = some q141 := by kernel_rfl
abbrev Fn142 : FuncId := 142
@[simp] def q142 : QFn := ⟨7, [(.tmp 2, 9)], .seq (.ops [oL 2 9]) (.seq (.ops [oA 3 0 9, oH 4 173 3 9 9, oH 5 172 4 9 9, ⟨some 6, .slice 9 (.tmp 5) none (some (.const (.int .i64 16))) none, 9, none⟩, oB 2 6 9]) (.ret))⟩
theorem Cv142 : convF Tryz.f142 = some q142 := by kernel_rfl
abbrev Fn143 : FuncId := 143
@[simp] def q143 : QFn := ⟨7, [(.tmp 2, 9)], .seq (.ops [oL 2 9]) (.seq (.ops [oA 3 0 58, ⟨some 4, .call { callee := .value (.func 144), args := #[.const (.string { data := #[116] }), .const (.int .i64 80)], argTypes := #[9, 3] }, 9, none⟩, ⟨some 5, .buildSlice 27 6 #[(0, .const (.string { data := #[] })), (1, .const (.string { data := #[111, 110, 101, 10] })), (2, .const (.string { data := #[111, 110, 101, 10, 116, 119, 111, 10, 116, 104, 114, 101, 101, 10] })), (3, .const (.string { data := #[110, 111, 32, 101, 110, 100] })), (4, .const (.string { data := #[97, 10, 98, 10, 99, 10, 100, 10, 101, 10, 102, 10, 103, 10] })), (5, .tmp 4)], 27, none⟩, oU 6 79 3 5 58 27 9, oB 2 6 9]) (.ret))⟩
theorem Cv143 : convF Tryz.f143 = some q143 := by kernel_rfl
abbrev Fn144 : FuncId := 144
def q144c0 : QCode := .seq (.ops [oA 14 0 9, oA 15 0 9, oAL 16 9 14 15 9 9, oB 0 16 9]) (.ops [oA 17 1 3, ⟨some 18, .binOp .quo 3 (.tmp 17) (.const (.int .i64 2)) 3, 3, none⟩, oB 1 18 3])
@[simp] theorem q144c0R : type_of% (run_is q144c0.eq_1) := run_is rfl
def q144c1 : QCode := .block 1 (.seq (.seq (.ops [oA 8 1 3, ⟨some 9, .binOp .rem 3 (.tmp 8) (.const (.int .i64 2)) 3, 3, none⟩, oW 10 3 9 1 3 4]) (.cond (.tmp 10) (.ops [oA 11 5 9, oA 12 0 9, oAL 13 9 11 12 9 9, oB 5 13 9]) (.skip))) (q144c0))
@[simp] theorem q144c1R : type_of% (run_is q144c1.eq_1) := run_is rfl
def q144l0 : QCode := .seq (.seq (.ops [oA 6 1 3, oAI 7 3 6 0 3 4]) (.cond (.tmp 7) (.skip) (.exit 0))) (q144c1)
@[simp] theorem q144l0R : type_of% (run_is q144l0.eq_1) := run_is rfl
def q144c2 : QCode := .seq (.ops [oA 19 5 9, oB 4 19 9]) (.ret)
@[simp] theorem q144c2R : type_of% (run_is q144c2.eq_1) := run_is rfl
@[simp] def q144 : QFn := ⟨20, [(.tmp 4, 9)], .seq (.ops [oL 4 9]) (.seq (.ops [oL 5 9]) (.seq (.block 0 (.loop q144l0)) (q144c2)))⟩
theorem Cv144 : convF Tryz.f144 = some q144 := by kernel_rfl
abbrev Fn145 : FuncId := 145
@[simp] def q145 : QFn := ⟨6, [(.tmp 2, 9)], .seq (.ops [oL 2 9]) (.seq (.ops [oA 3 0 58, oAY 4 27 16 0 1 2 3 4 5 6 7 8 9 10 11 12 13 14 15 27, oU 5 79 3 4 58 27 9, oB 2 5 9]) (.ret))⟩
theorem Cv145 : convF Tryz.f145 = some q145 := by kernel_rfl
abbrev Fn146 : FuncId := 146
def q146c0 : QCode := .ops [oC 23 167 4 167, oA 24 6 3, oZ 25 167 1 0 24 167, oV 26 23 25 167 167 167, oM 167 4 26 0]
@[simp] theorem q146c0R : type_of% (run_is q146c0.eq_1) := run_is rfl
def q146c1 : QCode := .seq (.ops [oC 27 167 4 167, oM 167 2 27 0, ⟨none, .store 4 (.tmp 3) (.const (.bool true)), 0, none⟩]) (.ret)
@[simp] theorem q146c1R : type_of% (run_is q146c1.eq_1) := run_is rfl
@[simp] def q146 : QFn := ⟨28, [(.cell 2 167, 167), (.cell 3 4, 4)], .seq (.ops [oR 2 167 0, oR 3 4 0]) (.seq (.ops [oR 4 167 0]) (.seq (.seq (.ops [oA 8 0 9, ⟨some 9, .call { callee := .value (.func 70), args := #[.tmp 8, .const (.string { data := #[46] })], argTypes := #[9, 9] }, 104, none⟩]) (.block 0 (.range 9 [10] (.ops [oB 5 10 9]) (.block 1 (.seq (.ops [oA 12 5 9, oAC 13 174 12 999 9 3 186, oA 11 13 186, oQ 14 11 0 3, oQ 15 11 1 4, oB 6 14 3, oB 7 15 4]) (.seq (.seq (.ops [oA 16 7 4, oT 17 4 16 4, oA 18 17 4, oAE 19 167 4 167 18, oAQ 20 19 167 3 18, ⟨some 21, .binOp .eql 3 (.tmp 20) (.const (.int .i64 4)) 3, 4, some (18, false)⟩, oN 22 18 21 4]) (.cond (.tmp 22) (.seq (.ops [⟨none, .store 167 (.tmp 2) (.const (.slice none 0 0)), 0, none⟩, ⟨none, .store 4 (.tmp 3) (.const (.bool false)), 0, none⟩]) (.ret)) (.skip))) (q146c0))))))) (q146c1)))⟩
theorem Cv146 : convF Tryz.f146 = some q146 := by kernel_rfl
abbrev Fn147 : FuncId := 147
@[simp] def q147 : QFn := ⟨18, [(.tmp 2, 4)], .seq (.ops [oD 2 4]) (.seq (.ops [oA 3 0 9, oE 4 3 9 3, ⟨some 5, .binOp .leq 3 (.tmp 4) (.const (.int .i64 10)) 3, 4, none⟩, oA 6 5 4, oO 7 0 9 6, ⟨some 8, .binOp .neq 9 (.tmp 7) (.const (.string { data := #[46] })) 9, 4, some (6, true)⟩, oP 9 6 8 4, oA 10 9 4, oO 11 0 9 10, ⟨some 12, .binOp .neq 9 (.tmp 11) (.const (.string { data := #[46, 46] })) 9, 4, some (10, true)⟩, oP 13 10 12 4, oA 14 13 4, oO 15 0 9 14, oAK 16 175 15 9 4 14, oP 17 14 16 4, oB 2 17 4]) (.ret))⟩
theorem Cv147 : convF Tryz.f147 = some q147 := by kernel_rfl
abbrev Fn148 : FuncId := 148
def q148c0 : QCode := .ops [oJ 34 3 9 1 3 3, oA 9 34 3]
@[simp] theorem q148c0R : type_of% (run_is q148c0.eq_1) := run_is rfl
def q148c1 : QCode := .seq (.block 1 (.seq (.ops [oA 11 9 3, oB 3 11 3]) (.seq (.ops [oA 12 0 9, oA 13 3 3, oAG 14 9 12 13 5, ⟨some 15, .binOp .lss 5 (.tmp 14) (.const (.int .u8 48)) 5, 4, none⟩, oA 16 15 4, oI 17 0 9 16, oI 18 3 3 16, oAO 19 9 17 18 5 16, oAS 20 5 19 57 5 4 16, oN 21 16 20 4, oA 22 21 4, oO 23 0 9 22, oO 24 3 3 22, ⟨some 25, .index 9 (.tmp 23) (.tmp 24), 5, some (22, true)⟩, ⟨some 26, .binOp .lss 5 (.tmp 25) (.const (.int .u8 97)) 5, 4, some (22, true)⟩, oO 27 26 4 22, oI 28 0 9 27, oI 29 3 3 27, oAO 30 9 28 29 5 27, oAS 31 5 30 102 5 4 27, ⟨some 32, .pick (.tmp 27) (.const (.bool true)) (.tmp 31), 4, some (22, true)⟩, oP 33 22 32 4]) (.cond (.tmp 33) (.seq (.ops [oD 2 4]) (.ret)) (.skip))))) (q148c0)
@[simp] theorem q148c1R : type_of% (run_is q148c1.eq_1) := run_is rfl
def q148l0 : QCode := .seq (.ops [oK 10 3 9 8 3 4]) (.seq (.cond (.tmp 10) (.skip) (.exit 0)) (q148c1))
@[simp] theorem q148l0R : type_of% (run_is q148l0.eq_1) := run_is rfl
def q148c2 : QCode := .seq (.ops [oAB 2 4]) (.ret)
@[simp] theorem q148c2R : type_of% (run_is q148c2.eq_1) := run_is rfl
def q148c3 : QCode := .seq (.seq (.ops [oA 7 0 9, oE 8 7 9 3, oAF 9 0 3]) (.block 0 (.loop q148l0))) (q148c2)
@[simp] theorem q148c3R : type_of% (run_is q148c3.eq_1) := run_is rfl
@[simp] def q148 : QFn := ⟨35, [(.tmp 2, 4)], .seq (.ops [oD 2 4]) (.seq (.seq (.ops [oA 4 0 9, oE 5 4 9 3, oAP 6 3 5 16 3 4]) (.cond (.tmp 6) (.seq (.ops [oD 2 4]) (.ret)) (.skip))) (q148c3))⟩
theorem Cv148 : convF Tryz.f148 = some q148 := by kernel_rfl
abbrev Fn149 : FuncId := 149
@[simp] def q149 : QFn := ⟨11, [(.tmp 2, 4)], .seq (.ops [oD 2 4]) (.seq (.ops [oA 6 0 9, oH 7 176 6 9 189, oA 5 7 189, oQ 8 5 0 188, oQ 9 5 1 4, oB 3 8 188, oB 4 9 4]) (.seq (.ops [oA 10 4 4, oB 2 10 4]) (.ret)))⟩
theorem Cv149 : convF Tryz.f149 = some q149 := by kernel_rfl
abbrev Fn150 : FuncId := 150
def q150c0 : QCode := .ops [oJ 17 3 9 1 3 3, oA 9 17 3]
@[simp] theorem q150c0R : type_of% (run_is q150c0.eq_1) := run_is rfl
def q150c1 : QCode := .seq (.block 1 (.seq (.ops [oA 11 9 3, oB 3 11 3]) (.seq (.ops [oA 12 0 9, oA 13 3 3, oAG 14 9 12 13 5, oH 15 177 14 5 4, oT 16 4 15 4]) (.cond (.tmp 16) (.seq (.ops [oD 2 4]) (.ret)) (.skip))))) (q150c0)
@[simp] theorem q150c1R : type_of% (run_is q150c1.eq_1) := run_is rfl
def q150l0 : QCode := .seq (.ops [oK 10 3 9 8 3 4]) (.seq (.cond (.tmp 10) (.skip) (.exit 0)) (q150c1))
@[simp] theorem q150l0R : type_of% (run_is q150l0.eq_1) := run_is rfl
def q150c2 : QCode := .seq (.ops [oAB 2 4]) (.ret)
@[simp] theorem q150c2R : type_of% (run_is q150c2.eq_1) := run_is rfl
def q150c3 : QCode := .seq (.seq (.ops [oA 7 0 9, oE 8 7 9 3, oAF 9 0 3]) (.block 0 (.loop q150l0))) (q150c2)
@[simp] theorem q150c3R : type_of% (run_is q150c3.eq_1) := run_is rfl
@[simp] def q150 : QFn := ⟨18, [(.tmp 2, 4)], .seq (.ops [oD 2 4]) (.seq (.seq (.ops [oA 4 0 9, oE 5 4 9 3, oAI 6 3 5 80 3 4]) (.cond (.tmp 6) (.seq (.ops [oD 2 4]) (.ret)) (.skip))) (q150c3))⟩
theorem Cv150 : convF Tryz.f150 = some q150 := by kernel_rfl
abbrev Fn151 : FuncId := 151
def q151c0 : QCode := .seq (.ops [⟨some 5, .buildSlice 27 0 #[], 27, none⟩, oA 6 0 27, oV 7 5 6 27 27 27, oB 2 7 27]) (.ret)
@[simp] theorem q151c0R : type_of% (run_is q151c0.eq_1) := run_is rfl
@[simp] def q151 : QFn := ⟨8, [(.tmp 2, 27)], .seq (.ops [oX 2 27]) (.seq (.seq (.ops [oA 3 0 27, ⟨some 4, .binOp .eql 27 (.tmp 3) (.const (.slice none 0 0)) 27, 4, none⟩]) (.cond (.tmp 4) (.seq (.ops [oX 2 27]) (.ret)) (.skip))) (q151c0))⟩
theorem Cv151 : convF Tryz.f151 = some q151 := by kernel_rfl
abbrev Fn152 : FuncId := 152
@[simp] def q152 : QFn := ⟨9, [(.tmp 4, 4)], .seq (.ops [oD 4 4]) (.seq (.ops [oA 5 0 27, oA 6 1 9, oU 7 178 5 6 27 9 3, ⟨some 8, .binOp .geq 3 (.tmp 7) (.const (.int .i64 0)) 3, 4, none⟩, oB 4 8 4]) (.ret))⟩
theorem Cv152 : convF Tryz.f152 = some q152 := by kernel_rfl
abbrev Fn153 : FuncId := 153
@[simp] def q153 : QFn := ⟨6, [(.tmp 2, 4)], .seq (.ops [oY 1 33 0 0, oD 2 4]) (.seq (.ops [oC 3 33 1 33, oH 4 88 3 33 4, oT 5 4 4 4, oB 2 5 4]) (.ret))⟩
theorem Cv153 : convF Tryz.f153 = some q153 := by kernel_rfl
abbrev Fn154 : FuncId := 154
@[simp] def q154 : QFn := ⟨9, [(.tmp 4, 4)], .seq (.ops [oD 4 4]) (.seq (.ops [oA 5 0 23, oA 6 1 115, oU 7 179 5 6 23 115 3, ⟨some 8, .binOp .geq 3 (.tmp 7) (.const (.int .i64 0)) 3, 4, none⟩, oB 4 8 4]) (.ret))⟩
theorem Cv154 : convF Tryz.f154 = some q154 := by kernel_rfl
abbrev Fn155 : FuncId := 155
def q155c0 : QCode := .ops [oA 50 9 9, oB 1 50 9]
@[simp] theorem q155c0R : type_of% (run_is q155c0.eq_1) := run_is rfl
def q155c1 : QCode := .seq (.ops [oA 38 6 9, oA 39 1 9, oA 40 7 3, ⟨some 41, .slice 9 (.tmp 39) none (some (.tmp 40)) none, 9, none⟩, oA 42 11 9, oAL 43 9 41 42 9 9, oAL 44 9 38 43 9 9, oB 6 44 9]) (.seq (.seq (.ops [oA 45 6 9, oE 46 45 9 3, oAI 47 3 46 80 3 4]) (.cond (.tmp 47) (.seq (.ops [⟨some 48, .build 195 #[(0, .const (.int .i64 5))], 195, none⟩, ⟨some 49, .makeInterface 195 (.tmp 48), 88, none⟩, oL 4 9, oB 5 49 88]) (.ret)) (.skip))) (q155c0))
@[simp] theorem q155c1R : type_of% (run_is q155c1.eq_1) := run_is rfl
def q155c2 : QCode := .seq (.ops [oA 30 0 193, oA 31 8 9, oU 32 181 30 31 193 9 173, oA 29 32 173, oQ 33 29 0 9, oQ 34 29 1 88, oB 11 33 9, oB 12 34 88]) (.seq (.seq (.ops [oA 35 12 88, ⟨some 36, .binOp .neq 88 (.tmp 35) (.const .nilIface) 88, 4, none⟩]) (.cond (.tmp 36) (.seq (.ops [oA 37 12 88, oL 4 9, oB 5 37 88]) (.ret)) (.skip))) (q155c1))
@[simp] theorem q155c2R : type_of% (run_is q155c2.eq_1) := run_is rfl
def q155c3 : QCode := .seq (.ops [oA 18 1 9, oA 19 7 3, ⟨some 20, .slice 9 (.tmp 18) (some (.tmp 19)) none none, 9, none⟩, oH 21 180 20 9 134, oA 17 21 134, oQ 22 17 0 9, oQ 23 17 1 9, oQ 24 17 2 4, oB 8 22 9, oB 9 23 9, oB 10 24 4]) (.seq (.seq (.ops [oA 25 10 4, oT 26 4 25 4]) (.cond (.tmp 26) (.seq (.ops [⟨some 27, .build 195 #[(0, .const (.int .i64 1))], 195, none⟩, ⟨some 28, .makeInterface 195 (.tmp 27), 88, none⟩, oL 4 9, oB 5 28 88]) (.ret)) (.skip))) (q155c2))
@[simp] theorem q155c3R : type_of% (run_is q155c3.eq_1) := run_is rfl
def q155l0 : QCode := .block 1 (.seq (.ops [oA 13 1 9, ⟨some 14, .call { callee := .value (.func 168), args := #[.tmp 13, .const (.string { data := #[36, 123] })], argTypes := #[9, 9] }, 3, none⟩, oB 7 14 3]) (.seq (.seq (.ops [oA 15 7 3, oAN 16 3 15 0 3 4]) (.cond (.tmp 16) (.exit 0) (.skip))) (q155c3)))
@[simp] theorem q155l0R : type_of% (run_is q155l0.eq_1) := run_is rfl
def q155c4 : QCode := .seq (.ops [oA 59 6 9, oB 4 59 9, ⟨some 5, .assign (.const .nilIface), 88, none⟩]) (.ret)
@[simp] theorem q155c4R : type_of% (run_is q155c4.eq_1) := run_is rfl
def q155c5 : QCode := .seq (.ops [oA 51 6 9, oA 52 1 9, oAL 53 9 51 52 9 9, oB 6 53 9]) (.seq (.seq (.ops [oA 54 6 9, oE 55 54 9 3, oAI 56 3 55 80 3 4]) (.cond (.tmp 56) (.seq (.ops [⟨some 57, .build 195 #[(0, .const (.int .i64 5))], 195, none⟩, ⟨some 58, .makeInterface 195 (.tmp 57), 88, none⟩, oL 4 9, oB 5 58 88]) (.ret)) (.skip))) (q155c4))
@[simp] theorem q155c5R : type_of% (run_is q155c5.eq_1) := run_is rfl
@[simp] def q155 : QFn := ⟨60, [(.tmp 4, 9), (.tmp 5, 88)], .seq (.ops [oL 4 9, ⟨some 5, .assign (.const .nilIface), 88, none⟩]) (.seq (.ops [oL 6 9]) (.seq (.block 0 (.loop q155l0)) (q155c5)))⟩
theorem Cv155 : convF Tryz.f155 = some q155 := by kernel_rfl
abbrev Fn157 : FuncId := 157
@[simp] def q157 : QFn := ⟨29, [(.tmp 2, 4)], .seq (.ops [oD 2 4]) (.seq (.ops [oA 3 0 5, ⟨some 4, .binOp .geq 5 (.tmp 3) (.const (.int .u8 97)) 5, 4, none⟩, oA 5 4 4, oO 6 0 5 5, oAT 7 5 6 122 5 4 5, oP 8 5 7 4, oA 9 8 4, oI 10 0 5 9, ⟨some 11, .binOp .geq 5 (.tmp 10) (.const (.int .u8 48)) 5, 4, some (9, false)⟩, oI 12 11 4 9, oO 13 0 5 12, oAT 14 5 13 57 5 4 12, ⟨some 15, .pick (.tmp 12) (.tmp 14) (.const (.bool false)), 4, some (9, false)⟩, oN 16 9 15 4, oA 17 16 4, oI 18 0 5 17, ⟨some 19, .binOp .eql 5 (.tmp 18) (.const (.int .u8 46)) 5, 4, some (17, false)⟩, oN 20 17 19 4, oA 21 20 4, oI 22 0 5 21, ⟨some 23, .binOp .eql 5 (.tmp 22) (.const (.int .u8 95)) 5, 4, some (21, false)⟩, oN 24 21 23 4, oA 25 24 4, oI 26 0 5 25, ⟨some 27, .binOp .eql 5 (.tmp 26) (.const (.int .u8 45)) 5, 4, some (25, false)⟩, oN 28 25 27 4, oB 2 28 4]) (.ret))⟩
theorem Cv157 : convF Tryz.f157 = some q157 := by kernel_rfl
abbrev Fn158 : FuncId := 158
@[simp] def q158 : QFn := ⟨15, [(.tmp 6, 4)], .seq (.ops [oD 6 4]) (.seq (.ops [oA 7 0 3, oA 8 1 3, ⟨some 9, .binOp .geq 3 (.tmp 7) (.tmp 8) 3, 4, none⟩, oA 10 9 4, oO 11 0 3 10, oO 12 2 3 10, ⟨some 13, .binOp .leq 3 (.tmp 11) (.tmp 12) 3, 4, some (10, true)⟩, oP 14 10 13 4, oB 6 14 4]) (.ret))⟩
theorem Cv158 : convF Tryz.f158 = some q158 := by kernel_rfl
abbrev Fn159 : FuncId := 159
def q159c0 : QCode := .ops [oA 22 3 3, oA 23 4 3, oAL 24 3 22 23 3 3, oAR 25 3 24 1 3 3, oB 3 25 3]
@[simp] theorem q159c0R : type_of% (run_is q159c0.eq_1) := run_is rfl
def q159c1 : QCode := .ops [oA 9 3 3, oJ 10 3 9 1 3 3, oB 3 10 3]
@[simp] theorem q159c1R : type_of% (run_is q159c1.eq_1) := run_is rfl
def q159c2 : QCode := .seq (.block 1 (.block 2 (.seq (.ops [oA 12 0 9, oA 13 3 3, oAG 14 9 12 13 5, ⟨some 15, .binOp .eql 5 (.tmp 14) (.const (.int .u8 91)) 5, 4, none⟩, oB 11 15 4]) (.cond (.tmp 11) (.seq (.ops [oA 16 0 9, oA 17 3 3, ⟨some 18, .slice 9 (.tmp 16) (some (.tmp 17)) none none, 9, none⟩, oH 19 183 18 9 3, oB 4 19 3]) (.seq (.seq (.ops [oA 20 4 3, oW 21 3 20 0 3 4]) (.cond (.tmp 21) (.seq (.ops [oD 2 4]) (.ret)) (.skip))) (q159c0))) (.seq (.ops [oA 27 0 9, oA 28 3 3, oAG 29 9 27 28 5, ⟨some 30, .binOp .eql 5 (.tmp 29) (.const (.int .u8 42)) 5, 4, none⟩, oA 31 30 4, oI 32 0 9 31, oI 33 3 3 31, oAO 34 9 32 33 5 31, ⟨some 35, .binOp .eql 5 (.tmp 34) (.const (.int .u8 63)) 5, 4, some (31, false)⟩, oN 36 31 35 4, oB 26 36 4]) (.cond (.tmp 26) (.exit 1) (.seq (.ops [oA 38 0 9, oA 39 3 3, oAG 40 9 38 39 5, oH 41 157 40 5 4, oT 42 4 41 4, oB 37 42 4]) (.cond (.tmp 37) (.seq (.ops [oD 2 4]) (.ret)) (.skip))))))))) (q159c1)
@[simp] theorem q159c2R : type_of% (run_is q159c2.eq_1) := run_is rfl
def q159l0 : QCode := .seq (.seq (.ops [oA 5 3 3, oA 6 0 9, oE 7 6 9 3, oK 8 3 5 7 3 4]) (.cond (.tmp 8) (.skip) (.exit 0))) (q159c2)
@[simp] theorem q159l0R : type_of% (run_is q159l0.eq_1) := run_is rfl
def q159c3 : QCode := .seq (.ops [oA 43 0 9, ⟨some 44, .binOp .neq 9 (.tmp 43) (.const (.string { data := #[] })) 9, 4, none⟩, oB 2 44 4]) (.ret)
@[simp] theorem q159c3R : type_of% (run_is q159c3.eq_1) := run_is rfl
@[simp] def q159 : QFn := ⟨45, [(.tmp 2, 4)], .seq (.ops [oD 2 4]) (.seq (.seq (.ops [oG 3 0 3]) (.block 0 (.loop q159l0))) (q159c3))⟩
theorem Cv159 : convF Tryz.f159 = some q159 := by kernel_rfl
abbrev Fn160 : FuncId := 160
def q160c0 : QCode := .ops [oA 29 5 166, oA 30 7 3, oZ 31 166 1 0 30 166, oV 32 29 31 166 166 166, oB 5 32 166]
@[simp] theorem q160c0R : type_of% (run_is q160c0.eq_1) := run_is rfl
def q160c1 : QCode := .ops [oA 18 6 3, oJ 19 3 18 1 3 3, oB 6 19 3]
@[simp] theorem q160c1R : type_of% (run_is q160c1.eq_1) := run_is rfl
def q160c2 : QCode := .seq (.block 1 (.seq (.ops [oA 20 4 27, oA 21 6 3, oS 22 27 20 21 0, oC 23 9 22 9, oH 24 184 23 9 3, oB 7 24 3]) (.seq (.seq (.ops [oA 25 7 3, oAW 26 158 25 0 999 3 3 3 4, oT 27 4 26 4]) (.cond (.tmp 27) (.seq (.ops [oA 28 5 166, oB 2 28 166, oD 3 4]) (.ret)) (.skip))) (q160c0)))) (q160c1)
@[simp] theorem q160c2R : type_of% (run_is q160c2.eq_1) := run_is rfl
def q160l0 : QCode := .seq (.seq (.ops [oA 14 6 3, oA 15 4 27, oE 16 15 27 3, oK 17 3 14 16 3 4]) (.cond (.tmp 17) (.skip) (.exit 0))) (q160c2)
@[simp] theorem q160l0R : type_of% (run_is q160l0.eq_1) := run_is rfl
def q160c3 : QCode := .seq (.ops [oA 33 5 166, oA 34 4 27, oE 35 34 27 3, ⟨some 36, .binOp .leq 3 (.tmp 35) (.const (.int .i64 4)) 3, 4, none⟩, oB 2 33 166, oB 3 36 4]) (.ret)
@[simp] theorem q160c3R : type_of% (run_is q160c3.eq_1) := run_is rfl
@[simp] def q160 : QFn := ⟨37, [(.tmp 2, 166), (.tmp 3, 4)], .seq (.ops [oX 2 166, oD 3 4]) (.seq (.ops [oA 8 0 9, oA 9 0 9, oE 10 9 9 3, oJ 11 3 10 1 3 3, ⟨some 12, .call { callee := .value (.func 67), args := #[.tmp 8, .const (.int .u8 46), .tmp 11], argTypes := #[9, 5, 3] }, 27, none⟩, oB 4 12 27]) (.seq (.ops [⟨some 13, .buildSlice 166 0 #[], 166, none⟩, oB 5 13 166]) (.seq (.seq (.ops [oG 6 0 3]) (.block 0 (.loop q160l0))) (q160c3))))⟩
theorem Cv160 : convF Tryz.f160 = some q160 := by kernel_rfl
abbrev Fn161 : FuncId := 161
@[simp] def q161 : QFn := ⟨26, [(.tmp 2, 4)], .seq (.ops [oY 1 94 0 0, oD 2 4]) (.seq (.ops [oF 3 94 1 0 0, oC 4 9 3 9, oH 5 109 4 9 4, oA 6 5 4, oAD 7 94 1 1 0 6, oAA 8 3 7 3 6, ⟨some 9, .binOp .eql 3 (.tmp 8) (.const (.int .i64 0)) 3, 4, some (6, true)⟩, oO 10 9 4 6, oAD 11 94 1 2 0 10, oAA 12 9 11 9 10, ⟨some 13, .binOp .eql 9 (.tmp 12) (.const (.string { data := #[] })) 9, 4, some (10, true)⟩, ⟨some 14, .pick (.tmp 10) (.tmp 13) (.const (.bool false)), 4, some (6, true)⟩, oO 15 14 4 6, oAH 16 94 1 1 0 15, oAE 17 3 16 3 15, ⟨some 18, .call { callee := .value (.func 158), args := #[.tmp 17, .const (.int .i64 1), .const (.int .i64 3)], argTypes := #[3, 3, 3] }, 4, some (15, false)⟩, oI 19 18 4 15, oAD 20 94 1 2 0 19, oAA 21 9 20 9 19, oAK 22 112 21 9 4 19, ⟨some 23, .pick (.tmp 19) (.tmp 22) (.const (.bool false)), 4, some (15, false)⟩, ⟨some 24, .pick (.tmp 15) (.const (.bool true)) (.tmp 23), 4, some (6, true)⟩, oP 25 6 24 4, oB 2 25 4]) (.ret))⟩
theorem Cv161 : convF Tryz.f161 = some q161 := by kernel_rfl
abbrev Fn172 : FuncId := 172
def q172c0 : QCode := .ops [oA 11 5 3, oJ 12 3 11 1 3 3, oB 5 12 3]
@[simp] theorem q172c0R : type_of% (run_is q172c0.eq_1) := run_is rfl
def q172c1 : QCode := .seq (.block 1 (.draw [] [⟨some 13, .move (.tmp 4), 22, none⟩, ⟨some 14, .move (.tmp 3), 9, none⟩, ⟨some 15, .move (.tmp 0), 9, none⟩, ⟨some 16, .move (.tmp 5), 3, none⟩, ⟨some 17, .index 9 (.tmp 15) (.tmp 16), 5, none⟩, ⟨some 18, .binOp .quo 5 (.tmp 17) (.const (.int .u8 16)) 5, 5, none⟩, ⟨some 19, .index 9 (.tmp 14) (.tmp 18), 5, none⟩, ⟨some 20, .move (.tmp 3), 9, none⟩, ⟨some 21, .move (.tmp 0), 9, none⟩, ⟨some 22, .move (.tmp 5), 3, none⟩, ⟨some 23, .index 9 (.tmp 21) (.tmp 22), 5, none⟩, ⟨some 24, .binOp .rem 5 (.tmp 23) (.const (.int .u8 16)) 5, 5, none⟩, ⟨some 25, .index 9 (.tmp 20) (.tmp 24), 5, none⟩] [⟨some 26, .buildSlice 22 2 #[(0, .tmp 19), (1, .tmp 25)], 22, none⟩, ⟨some 27, .call { callee := .builtin .append, args := #[.tmp 13, .tmp 26], argTypes := #[22, 22] }, 22, none⟩, ⟨some 4, .assign (.tmp 27), 22, none⟩])) (q172c0)
@[simp] theorem q172c1R : type_of% (run_is q172c1.eq_1) := run_is rfl
def q172l0 : QCode := .seq (.seq (.ops [oA 7 5 3, oA 8 0 9, oE 9 8 9 3, oK 10 3 7 9 3 4]) (.cond (.tmp 10) (.skip) (.exit 0))) (q172c1)
@[simp] theorem q172l0R : type_of% (run_is q172l0.eq_1) := run_is rfl
def q172c2 : QCode := .seq (.ops [oA 28 4 22, ⟨some 29, .convert 22 9 (.tmp 28), 9, none⟩, oB 2 29 9]) (.ret)
@[simp] theorem q172c2R : type_of% (run_is q172c2.eq_1) := run_is rfl
@[simp] def q172 : QFn := ⟨30, [(.tmp 2, 9)], .seq (.ops [oL 2 9]) (.seq (.ops [⟨some 3, .assign (.const (.string { data := #[48, 49, 50, 51, 52, 53, 54, 55, 56, 57, 97, 98, 99, 100, 101, 102] })), 9, none⟩]) (.seq (.ops [⟨some 6, .buildSlice 22 0 #[], 22, none⟩, oB 4 6 22]) (.seq (.seq (.ops [oG 5 0 3]) (.block 0 (.loop q172l0))) (q172c2))))⟩
theorem Cv172 : convF Tryz.f172 = some q172 := by kernel_rfl
abbrev Fn173 : FuncId := 173
def q173c0 : QCode := .ops [oA 15 5 3, oJ 16 3 15 64 3 3, oB 5 16 3]
@[simp] theorem q173c0R : type_of% (run_is q173c0.eq_1) := run_is rfl
def q173c1 : QCode := .seq (.block 1 (.ops [oA 17 3 207, oA 18 4 22, oA 19 5 3, oA 20 5 3, oJ 21 3 20 64 3 3, ⟨some 22, .slice 22 (.tmp 18) (some (.tmp 19)) (some (.tmp 21)) none, 22, none⟩, oU 23 194 17 22 207 22 207, oB 3 23 207])) (q173c0)
@[simp] theorem q173c1R : type_of% (run_is q173c1.eq_1) := run_is rfl
def q173l0 : QCode := .seq (.seq (.ops [oA 11 5 3, oA 12 4 22, oE 13 12 22 3, oK 14 3 11 13 3 4]) (.cond (.tmp 14) (.skip) (.exit 0))) (q173c1)
@[simp] theorem q173l0R : type_of% (run_is q173l0.eq_1) := run_is rfl
def q173c2 : QCode := .ops [oA 27 7 3, oJ 28 3 27 1 3 3, oB 7 28 3]
@[simp] theorem q173c2R : type_of% (run_is q173c2.eq_1) := run_is rfl
def q173c3 : QCode := .seq (.block 3 (.draw [] [⟨some 29, .move (.tmp 6), 22, none⟩, ⟨some 30, .move (.tmp 3), 207, none⟩, ⟨some 31, .move (.tmp 7), 3, none⟩, ⟨some 32, .indexAddr 207 (.tmp 30) (.tmp 31), 0, none⟩, ⟨some 33, .load 206 (.tmp 32), 206, none⟩, ⟨some 34, .binOp .shr 206 (.tmp 33) (.const (.int .u64 24)) 210, 206, none⟩, ⟨some 35, .convert 206 5 (.tmp 34), 5, none⟩, ⟨some 36, .move (.tmp 3), 207, none⟩, ⟨some 37, .move (.tmp 7), 3, none⟩, ⟨some 38, .indexAddr 207 (.tmp 36) (.tmp 37), 0, none⟩, ⟨some 39, .load 206 (.tmp 38), 206, none⟩, ⟨some 40, .binOp .shr 206 (.tmp 39) (.const (.int .u64 16)) 210, 206, none⟩, ⟨some 41, .convert 206 5 (.tmp 40), 5, none⟩, ⟨some 42, .move (.tmp 3), 207, none⟩, ⟨some 43, .move (.tmp 7), 3, none⟩, ⟨some 44, .indexAddr 207 (.tmp 42) (.tmp 43), 0, none⟩, ⟨some 45, .load 206 (.tmp 44), 206, none⟩, ⟨some 46, .binOp .shr 206 (.tmp 45) (.const (.int .u64 8)) 210, 206, none⟩, ⟨some 47, .convert 206 5 (.tmp 46), 5, none⟩, ⟨some 48, .move (.tmp 3), 207, none⟩, ⟨some 49, .move (.tmp 7), 3, none⟩, ⟨some 50, .indexAddr 207 (.tmp 48) (.tmp 49), 0, none⟩, ⟨some 51, .load 206 (.tmp 50), 206, none⟩, ⟨some 52, .convert 206 5 (.tmp 51), 5, none⟩] [⟨some 53, .buildSlice 22 4 #[(0, .tmp 35), (1, .tmp 41), (2, .tmp 47), (3, .tmp 52)], 22, none⟩, ⟨some 54, .call { callee := .builtin .append, args := #[.tmp 29, .tmp 53], argTypes := #[22, 22] }, 22, none⟩, ⟨some 6, .assign (.tmp 54), 22, none⟩])) (q173c2)
@[simp] theorem q173c3R : type_of% (run_is q173c3.eq_1) := run_is rfl
def q173l1 : QCode := .seq (.seq (.ops [oA 25 7 3, oAN 26 3 25 8 3 4]) (.cond (.tmp 26) (.skip) (.exit 2))) (q173c3)
@[simp] theorem q173l1R : type_of% (run_is q173l1.eq_1) := run_is rfl
def q173c4 : QCode := .seq (.ops [oA 55 6 22, ⟨some 56, .convert 22 9 (.tmp 55), 9, none⟩, oB 2 56 9]) (.ret)
@[simp] theorem q173c4R : type_of% (run_is q173c4.eq_1) := run_is rfl
def q173c5 : QCode := .seq (.ops [⟨some 24, .buildSlice 22 0 #[], 22, none⟩, oB 6 24 22]) (.seq (.seq (.ops [oG 7 0 3]) (.block 2 (.loop q173l1))) (q173c4))
@[simp] theorem q173c5R : type_of% (run_is q173c5.eq_1) := run_is rfl
@[simp] def q173 : QFn := ⟨57, [(.tmp 2, 9)], .seq (.ops [oL 2 9]) (.seq (.ops [⟨some 8, .buildSlice 207 8 #[(0, .const (.int .u32 1779033703)), (1, .const (.int .u32 3144134277)), (2, .const (.int .u32 1013904242)), (3, .const (.int .u32 2773480762)), (4, .const (.int .u32 1359893119)), (5, .const (.int .u32 2600822924)), (6, .const (.int .u32 528734635)), (7, .const (.int .u32 1541459225))], 207, none⟩, oB 3 8 207]) (.seq (.ops [oA 9 0 9, oH 10 193 9 9 22, oB 4 10 22]) (.seq (.seq (.ops [oG 5 0 3]) (.block 0 (.loop q173l0))) (q173c5))))⟩
theorem Cv173 : convF Tryz.f173 = some q173 := by kernel_rfl
abbrev Fn174 : FuncId := 174
def q174c0 : QCode := .ops [oA 40 6 3, ⟨some 41, .binOp .mul 3 (.tmp 40) (.const (.int .i64 10)) 3, 3, none⟩, oA 42 0 9, oA 43 7 3, oAG 44 9 42 43 5, ⟨some 45, .binOp .sub 5 (.tmp 44) (.const (.int .u8 48)) 5, 5, none⟩, ⟨some 46, .convert 5 3 (.tmp 45), 3, none⟩, oAL 47 3 41 46 3 3, oB 6 47 3]
@[simp] theorem q174c0R : type_of% (run_is q174c0.eq_1) := run_is rfl
def q174c1 : QCode := .ops [oJ 48 3 27 1 3 3, oA 27 48 3]
@[simp] theorem q174c1R : type_of% (run_is q174c1.eq_1) := run_is rfl
def q174c2 : QCode := .seq (.block 1 (.seq (.ops [oA 29 27 3, oB 7 29 3]) (.seq (.seq (.ops [oA 30 0 9, oA 31 7 3, oAG 32 9 30 31 5, ⟨some 33, .binOp .lss 5 (.tmp 32) (.const (.int .u8 48)) 5, 4, none⟩, oA 34 33 4, oI 35 0 9 34, oI 36 7 3 34, oAO 37 9 35 36 5 34, oAS 38 5 37 57 5 4 34, oN 39 34 38 4]) (.cond (.tmp 39) (.seq (.ops [oG 4 0 3, oD 5 4]) (.ret)) (.skip))) (q174c0)))) (q174c1)
@[simp] theorem q174c2R : type_of% (run_is q174c2.eq_1) := run_is rfl
def q174l0 : QCode := .seq (.ops [oK 28 3 27 26 3 4]) (.seq (.cond (.tmp 28) (.skip) (.exit 0)) (q174c2))
@[simp] theorem q174l0R : type_of% (run_is q174l0.eq_1) := run_is rfl
def q174c3 : QCode := .seq (.ops [oA 52 6 3, oB 4 52 3, oAB 5 4]) (.ret)
@[simp] theorem q174c3R : type_of% (run_is q174c3.eq_1) := run_is rfl
def q174c4 : QCode := .seq (.seq (.ops [oA 49 6 3, oA 50 1 3, ⟨some 51, .binOp .gtr 3 (.tmp 49) (.tmp 50) 3, 4, none⟩]) (.cond (.tmp 51) (.seq (.ops [oG 4 0 3, oD 5 4]) (.ret)) (.skip))) (q174c3)
@[simp] theorem q174c4R : type_of% (run_is q174c4.eq_1) := run_is rfl
def q174c5 : QCode := .seq (.ops [oG 6 0 3]) (.seq (.seq (.ops [oA 25 0 9, oE 26 25 9 3, oAF 27 0 3]) (.block 0 (.loop q174l0))) (q174c4))
@[simp] theorem q174c5R : type_of% (run_is q174c5.eq_1) := run_is rfl
@[simp] def q174 : QFn := ⟨53, [(.tmp 4, 3), (.tmp 5, 4)], .seq (.ops [oG 4 0 3, oD 5 4]) (.seq (.seq (.ops [oA 8 0 9, ⟨some 9, .binOp .eql 9 (.tmp 8) (.const (.string { data := #[] })) 9, 4, none⟩, oA 10 9 4, oI 11 0 9 10, oAQ 12 11 9 3 10, ⟨some 13, .binOp .gtr 3 (.tmp 12) (.const (.int .i64 9)) 3, 4, some (10, false)⟩, oN 14 10 13 4, oA 15 14 4, oI 16 0 9 15, oAQ 17 16 9 3 15, ⟨some 18, .binOp .gtr 3 (.tmp 17) (.const (.int .i64 1)) 3, 4, some (15, false)⟩, oI 19 18 4 15, oO 20 0 9 19, ⟨some 21, .index 9 (.tmp 20) (.const (.int .i64 0)), 5, some (19, true)⟩, ⟨some 22, .binOp .eql 5 (.tmp 21) (.const (.int .u8 48)) 5, 4, some (19, true)⟩, ⟨some 23, .pick (.tmp 19) (.tmp 22) (.const (.bool false)), 4, some (15, false)⟩, oN 24 15 23 4]) (.cond (.tmp 24) (.seq (.ops [oG 4 0 3, oD 5 4]) (.ret)) (.skip))) (q174c5))⟩
theorem Cv174 : convF Tryz.f174 = some q174 := by kernel_rfl
abbrev Fn175 : FuncId := 175
def q175c0 : QCode := .ops [oJ 14 3 6 1 3 3, oA 6 14 3]
@[simp] theorem q175c0R : type_of% (run_is q175c0.eq_1) := run_is rfl
def q175c1 : QCode := .seq (.block 1 (.seq (.ops [oA 8 6 3, oB 3 8 3]) (.seq (.ops [oA 9 0 9, oA 10 3 3, oAG 11 9 9 10 5, oH 12 195 11 5 4, oT 13 4 12 4]) (.cond (.tmp 13) (.seq (.ops [oD 2 4]) (.ret)) (.skip))))) (q175c0)
@[simp] theorem q175c1R : type_of% (run_is q175c1.eq_1) := run_is rfl
def q175l0 : QCode := .seq (.ops [oK 7 3 6 5 3 4]) (.seq (.cond (.tmp 7) (.skip) (.exit 0)) (q175c1))
@[simp] theorem q175l0R : type_of% (run_is q175l0.eq_1) := run_is rfl
def q175c2 : QCode := .seq (.ops [oA 15 0 9, ⟨some 16, .binOp .neq 9 (.tmp 15) (.const (.string { data := #[] })) 9, 4, none⟩, oB 2 16 4]) (.ret)
@[simp] theorem q175c2R : type_of% (run_is q175c2.eq_1) := run_is rfl
@[simp] def q175 : QFn := ⟨17, [(.tmp 2, 4)], .seq (.ops [oD 2 4]) (.seq (.seq (.ops [oA 4 0 9, oE 5 4 9 3, oAF 6 0 3]) (.block 0 (.loop q175l0))) (q175c2))⟩
theorem Cv175 : convF Tryz.f175 = some q175 := by kernel_rfl
abbrev Fn176 : FuncId := 176
def q176c0 : QCode := .seq (.ops [⟨some 27, .makeFunc (.func 197) #[] #[.tmp 6], 54, none⟩, oB 8 27 54]) (.ops [oC 28 188 4 188, oA 29 5 9, ⟨some 30, .binOp .eql 9 (.tmp 29) (.const (.string { data := #[42, 42] })) 9, 4, none⟩, oA 31 8 54, ⟨some 32, .build 216 #[(0, .tmp 30), (1, .tmp 31)], 216, none⟩, oZ 33 188 1 0 32 188, oV 34 28 33 188 188 188, oM 188 4 34 0])
@[simp] theorem q176c0R : type_of% (run_is q176c0.eq_1) := run_is rfl
def q176c1 : QCode := .seq (.ops [oC 35 188 4 188, oM 188 2 35 0, ⟨none, .store 4 (.tmp 3) (.const (.bool true)), 0, none⟩]) (.ret)
@[simp] theorem q176c1R : type_of% (run_is q176c1.eq_1) := run_is rfl
def q176c2 : QCode := .seq (.ops [oR 4 188 0]) (.seq (.seq (.ops [oA 12 0 9, ⟨some 13, .call { callee := .value (.func 70), args := #[.tmp 12, .const (.string { data := #[47] })], argTypes := #[9, 9] }, 104, none⟩]) (.block 0 (.range 13 [14] (.ops [oB 5 14 9]) (.block 1 (.seq (.ops [oA 16 5 9, oH 17 196 16 9 212, oA 15 17 212, oQ 18 15 0 211, oQ 19 15 1 4, oR 6 211 0, oM 211 6 18 0, oB 7 19 4]) (.seq (.seq (.ops [oA 20 7 4, oT 21 4 20 4, oA 22 21 4, oAE 23 188 4 188 22, oAQ 24 23 188 3 22, ⟨some 25, .binOp .eql 3 (.tmp 24) (.const (.int .i64 5)) 3, 4, some (22, false)⟩, oN 26 22 25 4]) (.cond (.tmp 26) (.seq (.ops [⟨none, .store 188 (.tmp 2) (.const (.slice none 0 0)), 0, none⟩, ⟨none, .store 4 (.tmp 3) (.const (.bool false)), 0, none⟩]) (.ret)) (.skip))) (q176c0))))))) (q176c1))
@[simp] theorem q176c2R : type_of% (run_is q176c2.eq_1) := run_is rfl
@[simp] def q176 : QFn := ⟨36, [(.cell 2 188, 188), (.cell 3 4, 4)], .seq (.ops [oR 2 188 0, oR 3 4 0]) (.seq (.seq (.ops [oA 9 0 9, oE 10 9 9 3, oAI 11 3 10 40 3 4]) (.cond (.tmp 11) (.seq (.ops [⟨none, .store 188 (.tmp 2) (.const (.slice none 0 0)), 0, none⟩, ⟨none, .store 4 (.tmp 3) (.const (.bool false)), 0, none⟩]) (.ret)) (.skip))) (q176c2))⟩
theorem Cv176 : convF Tryz.f176 = some q176 := by kernel_rfl
abbrev Fn177 : FuncId := 177
@[simp] def q177 : QFn := ⟨9, [(.tmp 2, 4)], .seq (.ops [oD 2 4]) (.seq (.ops [oA 3 0 5, ⟨some 4, .binOp .geq 5 (.tmp 3) (.const (.int .u8 32)) 5, 4, none⟩, oA 5 4 4, oO 6 0 5 5, oAT 7 5 6 126 5 4 5, oP 8 5 7 4, oB 2 8 4]) (.ret))⟩
theorem Cv177 : convF Tryz.f177 = some q177 := by kernel_rfl
abbrev Fn178 : FuncId := 178
def q178c0 : QCode := .ops [oJ 18 3 8 1 3 3, oA 8 18 3]
@[simp] theorem q178c0R : type_of% (run_is q178c0.eq_1) := run_is rfl
def q178c1 : QCode := .seq (.block 1 (.seq (.ops [oA 10 8 3, oB 5 10 3]) (.seq (.ops [oA 11 1 9, oA 12 0 27, oA 13 5 3, oS 14 27 12 13 0, oC 15 9 14 9, ⟨some 16, .binOp .eql 9 (.tmp 11) (.tmp 15) 9, 4, none⟩]) (.cond (.tmp 16) (.seq (.ops [oA 17 5 3, oB 4 17 3]) (.ret)) (.skip))))) (q178c0)
@[simp] theorem q178c1R : type_of% (run_is q178c1.eq_1) := run_is rfl
def q178l0 : QCode := .seq (.ops [oK 9 3 8 7 3 0]) (.seq (.cond (.tmp 9) (.skip) (.exit 0)) (q178c1))
@[simp] theorem q178l0R : type_of% (run_is q178l0.eq_1) := run_is rfl
def q178c2 : QCode := .seq (.ops [⟨some 4, .assign (.const (.int .i64 (-1))), 3, none⟩]) (.ret)
@[simp] theorem q178c2R : type_of% (run_is q178c2.eq_1) := run_is rfl
@[simp] def q178 : QFn := ⟨19, [(.tmp 4, 3)], .seq (.ops [oG 4 0 3]) (.seq (.seq (.ops [oA 6 0 27, oE 7 6 27 3, oAF 8 0 3]) (.block 0 (.loop q178l0))) (q178c2))⟩
theorem Cv178 : convF Tryz.f178 = some q178 := by kernel_rfl
abbrev Fn179 : FuncId := 179
def q179c0 : QCode := .ops [oJ 18 3 8 1 3 3, oA 8 18 3]
@[simp] theorem q179c0R : type_of% (run_is q179c0.eq_1) := run_is rfl
def q179c1 : QCode := .seq (.block 1 (.seq (.ops [oA 10 8 3, oB 5 10 3]) (.seq (.ops [oA 11 1 115, oA 12 0 23, oA 13 5 3, oS 14 23 12 13 0, oC 15 33 14 33, oAJ 16 11 15 33 4]) (.cond (.tmp 16) (.seq (.ops [oA 17 5 3, oB 4 17 3]) (.ret)) (.skip))))) (q179c0)
@[simp] theorem q179c1R : type_of% (run_is q179c1.eq_1) := run_is rfl
def q179l0 : QCode := .seq (.ops [oK 9 3 8 7 3 0]) (.seq (.cond (.tmp 9) (.skip) (.exit 0)) (q179c1))
@[simp] theorem q179l0R : type_of% (run_is q179l0.eq_1) := run_is rfl
def q179c2 : QCode := .seq (.ops [⟨some 4, .assign (.const (.int .i64 (-1))), 3, none⟩]) (.ret)
@[simp] theorem q179c2R : type_of% (run_is q179c2.eq_1) := run_is rfl
@[simp] def q179 : QFn := ⟨19, [(.tmp 4, 3)], .seq (.ops [oG 4 0 3]) (.seq (.seq (.ops [oA 6 0 23, oE 7 6 23 3, oAF 8 0 3]) (.block 0 (.loop q179l0))) (q179c2))⟩
theorem Cv179 : convF Tryz.f179 = some q179 := by kernel_rfl
abbrev Fn180 : FuncId := 180
def q180c0 : QCode := .seq (.ops [oA 22 5 9, oA 23 6 9, oB 2 22 9, oB 3 23 9, oAB 4 4]) (.ret)
@[simp] theorem q180c0R : type_of% (run_is q180c0.eq_1) := run_is rfl
@[simp] def q180 : QFn := ⟨24, [(.tmp 2, 9), (.tmp 3, 9), (.tmp 4, 4)], .seq (.ops [oL 2 9, oL 3 9, oD 4 4]) (.seq (.ops [oA 9 0 9, ⟨some 10, .call { callee := .value (.func 199), args := #[.tmp 9, .const (.string { data := #[36, 123] })], argTypes := #[9, 9] }, 9, none⟩, ⟨some 11, .call { callee := .value (.func 137), args := #[.tmp 10, .const (.string { data := #[125] })], argTypes := #[9, 9] }, 134, none⟩, oA 8 11 134, oQ 12 8 0 9, oQ 13 8 1 9, oQ 14 8 2 4, oB 5 12 9, oB 6 13 9, oB 7 14 4]) (.seq (.seq (.ops [oA 15 7 4, oT 16 4 15 4, oA 17 16 4, oI 18 5 9 17, oAM 19 85 18 9 4 17, ⟨some 20, .unOp .not 4 (.tmp 19), 4, some (17, false)⟩, oN 21 17 20 4]) (.cond (.tmp 21) (.seq (.ops [oL 2 9, oL 3 9, oD 4 4]) (.ret)) (.skip))) (q180c0)))⟩
theorem Cv180 : convF Tryz.f180 = some q180 := by kernel_rfl
abbrev Fn181 : FuncId := 181
def q181c0 : QCode := .seq (.draw [] [⟨some 27, .move (.tmp 0), 193, none⟩, ⟨some 28, .move (.tmp 0), 193, none⟩, ⟨some 29, .nilCheck (.tmp 28), 0, none⟩, ⟨some 30, .fieldAddr 172 (.tmp 29) 1, 0, none⟩, ⟨some 31, .load 27 (.tmp 30), 27, none⟩, ⟨some 32, .load 9 (.tmp 3), 9, none⟩, ⟨some 33, .buildSlice 27 1 #[(0, .tmp 32)], 27, none⟩] [⟨some 34, .call { callee := .builtin .append, args := #[.tmp 31, .tmp 33], argTypes := #[27, 27] }, 27, none⟩, ⟨some 35, .nilCheck (.tmp 27), 0, none⟩, ⟨some 36, .fieldAddr 172 (.tmp 35) 1, 0, none⟩, ⟨none, .store 27 (.tmp 36) (.tmp 34), 0, none⟩]) (.seq (.ops [oA 38 0 193, oA 39 0 193, ⟨some 40, .nilCheck (.tmp 39), 0, none⟩, oF 41 172 40 0 0, oC 42 23 41 23, oA 43 6 3, oS 44 23 42 43 0, oF 45 33 44 1 0, oC 46 9 45 9, oU 47 155 38 46 193 9 173, oA 37 47 173, oQ 48 37 0 9, oQ 49 37 1 88, oB 7 48 9, oB 8 49 88]) (.seq (.draw [] [⟨some 50, .move (.tmp 0), 193, none⟩, ⟨some 51, .move (.tmp 0), 193, none⟩, ⟨some 52, .nilCheck (.tmp 51), 0, none⟩, ⟨some 53, .fieldAddr 172 (.tmp 52) 1, 0, none⟩, ⟨some 54, .load 27 (.tmp 53), 27, none⟩, ⟨some 55, .move (.tmp 0), 193, none⟩, ⟨some 56, .nilCheck (.tmp 55), 0, none⟩, ⟨some 57, .fieldAddr 172 (.tmp 56) 1, 0, none⟩, ⟨some 58, .load 27 (.tmp 57), 27, none⟩, ⟨some 59, .call { callee := .builtin .len, args := #[.tmp 58], argTypes := #[27] }, 3, none⟩, ⟨some 60, .binOp .sub 3 (.tmp 59) (.const (.int .i64 1)) 3, 3, none⟩] [⟨some 61, .slice 27 (.tmp 54) none (some (.tmp 60)) none, 27, none⟩, ⟨some 62, .nilCheck (.tmp 50), 0, none⟩, ⟨some 63, .fieldAddr 172 (.tmp 62) 1, 0, none⟩, ⟨none, .store 27 (.tmp 63) (.tmp 61), 0, none⟩]) (.seq (.ops [oA 64 7 9, oA 65 8 88, oB 4 64 9, oB 5 65 88]) (.ret))))
@[simp] theorem q181c0R : type_of% (run_is q181c0.eq_1) := run_is rfl
def q181c1 : QCode := .seq (.seq (.draw [] [⟨some 19, .move (.tmp 0), 193, none⟩, ⟨some 20, .nilCheck (.tmp 19), 0, none⟩, ⟨some 21, .fieldAddr 172 (.tmp 20) 1, 0, none⟩, ⟨some 22, .load 27 (.tmp 21), 27, none⟩, ⟨some 23, .load 9 (.tmp 3), 9, none⟩] [⟨some 24, .call { callee := .value (.func 152), args := #[.tmp 22, .tmp 23], argTypes := #[27, 9] }, 4, none⟩]) (.cond (.tmp 24) (.seq (.ops [⟨some 25, .build 195 #[(0, .const (.int .i64 4))], 195, none⟩, ⟨some 26, .makeInterface 195 (.tmp 25), 88, none⟩, oL 4 9, oB 5 26 88]) (.ret)) (.skip))) (q181c0)
@[simp] theorem q181c1R : type_of% (run_is q181c1.eq_1) := run_is rfl
@[simp] def q181 : QFn := ⟨66, [(.tmp 4, 9), (.tmp 5, 88)], .seq (.ops [oY 3 9 1 0, oL 4 9, ⟨some 5, .assign (.const .nilIface), 88, none⟩]) (.seq (.ops [oA 9 0 193, ⟨some 10, .nilCheck (.tmp 9), 0, none⟩, oF 11 172 10 0 0, oC 12 23 11 23, ⟨some 13, .makeFunc (.func 200) #[] #[.tmp 3], 115, none⟩, oU 14 179 12 13 23 115 3, oB 6 14 3]) (.seq (.seq (.ops [oA 15 6 3, oAN 16 3 15 0 3 4]) (.cond (.tmp 16) (.seq (.ops [⟨some 17, .build 195 #[(0, .const (.int .i64 3))], 195, none⟩, ⟨some 18, .makeInterface 195 (.tmp 17), 88, none⟩, oL 4 9, oB 5 18 88]) (.ret)) (.skip))) (q181c1)))⟩
theorem Cv181 : convF Tryz.f181 = some q181 := by kernel_rfl
abbrev Fn183 : FuncId := 183
def q183c0 : QCode := .block 1 (.ops [oA 24 3 3, oJ 25 3 24 1 3 3, oB 3 25 3])
@[simp] theorem q183c0R : type_of% (run_is q183c0.eq_1) := run_is rfl
def q183l0 : QCode := .seq (.seq (.ops [oA 14 3 3, oA 15 0 9, oE 16 15 9 3, oK 17 3 14 16 3 4, oA 18 17 4, oO 19 0 9 18, oO 20 3 3 18, ⟨some 21, .index 9 (.tmp 19) (.tmp 20), 5, some (18, true)⟩, oAK 22 157 21 5 4 18, oP 23 18 22 4]) (.cond (.tmp 23) (.skip) (.exit 0))) (q183c0)
@[simp] theorem q183l0R : type_of% (run_is q183l0.eq_1) := run_is rfl
def q183c1 : QCode := .seq (.ops [oA 41 3 3, oJ 42 3 41 1 3 3, oB 2 42 3]) (.ret)
@[simp] theorem q183c1R : type_of% (run_is q183c1.eq_1) := run_is rfl
def q183c2 : QCode := .seq (.seq (.ops [oA 26 3 3, oA 27 4 3, ⟨some 28, .binOp .eql 3 (.tmp 26) (.tmp 27) 3, 4, none⟩, oA 29 28 4, oI 30 3 3 29, oI 31 0 9 29, oAQ 32 31 9 3 29, ⟨some 33, .binOp .eql 3 (.tmp 30) (.tmp 32) 3, 4, some (29, false)⟩, oN 34 29 33 4, oA 35 34 4, oI 36 0 9 35, oI 37 3 3 35, oAO 38 9 36 37 5 35, ⟨some 39, .binOp .neq 5 (.tmp 38) (.const (.int .u8 93)) 5, 4, some (35, false)⟩, oN 40 35 39 4]) (.cond (.tmp 40) (.seq (.ops [oG 2 0 3]) (.ret)) (.skip))) (q183c1)
@[simp] theorem q183c2R : type_of% (run_is q183c2.eq_1) := run_is rfl
def q183c3 : QCode := .seq (.ops [oA 13 3 3, oB 4 13 3]) (.seq (.block 0 (.loop q183l0)) (q183c2))
@[simp] theorem q183c3R : type_of% (run_is q183c3.eq_1) := run_is rfl
@[simp] def q183 : QFn := ⟨43, [(.tmp 2, 3)], .seq (.ops [oG 2 0 3]) (.seq (.ops [oG 3 1 3]) (.seq (.seq (.ops [oA 5 0 9, oE 6 5 9 3, oAI 7 3 6 1 3 4, oA 8 7 4, oO 9 0 9 8, ⟨some 10, .index 9 (.tmp 9) (.const (.int .i64 1)), 5, some (8, true)⟩, ⟨some 11, .binOp .eql 5 (.tmp 10) (.const (.int .u8 33)) 5, 4, some (8, true)⟩, oP 12 8 11 4]) (.cond (.tmp 12) (.ops [oG 3 2 3]) (.skip))) (q183c3)))⟩
theorem Cv183 : convF Tryz.f183 = some q183 := by kernel_rfl
abbrev Fn184 : FuncId := 184
def q184c0 : QCode := .ops [oA 25 3 3, ⟨some 26, .binOp .mul 3 (.tmp 25) (.const (.int .i64 10)) 3, 3, none⟩, oA 27 0 9, oA 28 4 3, oAG 29 9 27 28 5, ⟨some 30, .binOp .sub 5 (.tmp 29) (.const (.int .u8 48)) 5, 5, none⟩, ⟨some 31, .convert 5 3 (.tmp 30), 3, none⟩, oAL 32 3 26 31 3 3, oB 3 32 3]
@[simp] theorem q184c0R : type_of% (run_is q184c0.eq_1) := run_is rfl
def q184c1 : QCode := .ops [oA 9 4 3, oJ 10 3 9 1 3 3, oB 4 10 3]
@[simp] theorem q184c1R : type_of% (run_is q184c1.eq_1) := run_is rfl
def q184c2 : QCode := .seq (.block 1 (.seq (.seq (.ops [oA 11 0 9, oA 12 4 3, oAG 13 9 11 12 5, ⟨some 14, .binOp .lss 5 (.tmp 13) (.const (.int .u8 48)) 5, 4, none⟩, oA 15 14 4, oI 16 0 9 15, oI 17 4 3 15, oAO 18 9 16 17 5 15, oAS 19 5 18 57 5 4 15, oN 20 15 19 4, oA 21 20 4, oI 22 4 3 21, ⟨some 23, .binOp .geq 3 (.tmp 22) (.const (.int .i64 6)) 3, 4, some (21, false)⟩, oN 24 21 23 4]) (.cond (.tmp 24) (.seq (.ops [⟨some 2, .assign (.const (.int .i64 (-1))), 3, none⟩]) (.ret)) (.skip))) (q184c0))) (q184c1)
@[simp] theorem q184c2R : type_of% (run_is q184c2.eq_1) := run_is rfl
def q184l0 : QCode := .seq (.seq (.ops [oA 5 4 3, oA 6 0 9, oE 7 6 9 3, oK 8 3 5 7 3 4]) (.cond (.tmp 8) (.skip) (.exit 0))) (q184c2)
@[simp] theorem q184l0R : type_of% (run_is q184l0.eq_1) := run_is rfl
def q184c3 : QCode := .seq (.ops [oA 46 3 3, oB 2 46 3]) (.ret)
@[simp] theorem q184c3R : type_of% (run_is q184c3.eq_1) := run_is rfl
def q184c4 : QCode := .seq (.seq (.ops [oA 33 0 9, oE 34 33 9 3, oW 35 3 34 0 3 4, oA 36 35 4, oI 37 0 9 36, oAQ 38 37 9 3 36, ⟨some 39, .binOp .gtr 3 (.tmp 38) (.const (.int .i64 1)) 3, 4, some (36, false)⟩, oI 40 39 4 36, oO 41 0 9 40, ⟨some 42, .index 9 (.tmp 41) (.const (.int .i64 0)), 5, some (40, true)⟩, ⟨some 43, .binOp .eql 5 (.tmp 42) (.const (.int .u8 48)) 5, 4, some (40, true)⟩, ⟨some 44, .pick (.tmp 40) (.tmp 43) (.const (.bool false)), 4, some (36, false)⟩, oN 45 36 44 4]) (.cond (.tmp 45) (.seq (.ops [⟨some 2, .assign (.const (.int .i64 (-1))), 3, none⟩]) (.ret)) (.skip))) (q184c3)
@[simp] theorem q184c4R : type_of% (run_is q184c4.eq_1) := run_is rfl
@[simp] def q184 : QFn := ⟨47, [(.tmp 2, 3)], .seq (.ops [oG 2 0 3]) (.seq (.ops [oG 3 0 3]) (.seq (.seq (.ops [oG 4 0 3]) (.block 0 (.loop q184l0))) (q184c4)))⟩
theorem Cv184 : convF Tryz.f184 = some q184 := by kernel_rfl
abbrev Fn192 : FuncId := 192
@[simp] def q192 : QFn := ⟨18, [(.tmp 4, 4)], .seq (.ops [oD 4 4]) (.seq (.ops [oA 5 0 9, oE 6 5 9 3, oA 7 1 9, oE 8 7 9 3, ⟨some 9, .binOp .geq 3 (.tmp 6) (.tmp 8) 3, 4, none⟩, oA 10 9 4, oO 11 0 9 10, oO 12 1 9 10, oAU 13 12 9 3 10, ⟨some 14, .slice 9 (.tmp 11) none (some (.tmp 13)) none, 9, some (10, true)⟩, oO 15 1 9 10, ⟨some 16, .binOp .eql 9 (.tmp 14) (.tmp 15) 9, 4, some (10, true)⟩, oP 17 10 16 4, oB 4 17 4]) (.ret))⟩
theorem Cv192 : convF Tryz.f192 = some q192 := by kernel_rfl
abbrev Fn193 : FuncId := 193
def q193c0 : QCode := .block 1 (.ops [oA 14 3 22, ⟨some 15, .buildSlice 22 1 #[(0, .const (.int .u8 0))], 22, none⟩, oV 16 14 15 22 22 22, oB 3 16 22])
@[simp] theorem q193c0R : type_of% (run_is q193c0.eq_1) := run_is rfl
def q193l0 : QCode := .seq (.seq (.ops [oA 10 3 22, oE 11 10 22 3, ⟨some 12, .binOp .rem 3 (.tmp 11) (.const (.int .i64 64)) 3, 3, none⟩, oAP 13 3 12 56 3 4]) (.cond (.tmp 13) (.skip) (.exit 0))) (q193c0)
@[simp] theorem q193l0R : type_of% (run_is q193l0.eq_1) := run_is rfl
def q193c1 : QCode := .ops [oA 22 5 3, oAR 23 3 22 1 3 3, oB 5 23 3]
@[simp] theorem q193c1R : type_of% (run_is q193c1.eq_1) := run_is rfl
def q193c2 : QCode := .seq (.block 3 (.ops [oA 24 3 22, oA 25 4 3, oA 26 5 3, ⟨some 27, .binOp .mul 3 (.const (.int .i64 8)) (.tmp 26) 3, 3, none⟩, ⟨some 28, .binOp .shr 3 (.tmp 25) (.tmp 27) 3, 3, none⟩, ⟨some 29, .convert 3 5 (.tmp 28), 5, none⟩, oZ 30 22 1 0 29 22, oV 31 24 30 22 22 22, oB 3 31 22])) (q193c1)
@[simp] theorem q193c2R : type_of% (run_is q193c2.eq_1) := run_is rfl
def q193l1 : QCode := .seq (.seq (.ops [oA 20 5 3, ⟨some 21, .binOp .geq 3 (.tmp 20) (.const (.int .i64 0)) 3, 4, none⟩]) (.cond (.tmp 21) (.skip) (.exit 2))) (q193c2)
@[simp] theorem q193l1R : type_of% (run_is q193l1.eq_1) := run_is rfl
def q193c3 : QCode := .seq (.ops [oA 32 3 22, oB 2 32 22]) (.ret)
@[simp] theorem q193c3R : type_of% (run_is q193c3.eq_1) := run_is rfl
def q193c4 : QCode := .seq (.ops [oA 17 0 9, oE 18 17 9 3, ⟨some 19, .binOp .mul 3 (.tmp 18) (.const (.int .i64 8)) 3, 3, none⟩, oB 4 19 3]) (.seq (.seq (.ops [oG 5 7 3]) (.block 2 (.loop q193l1))) (q193c3))
@[simp] theorem q193c4R : type_of% (run_is q193c4.eq_1) := run_is rfl
@[simp] def q193 : QFn := ⟨33, [(.tmp 2, 22)], .seq (.ops [oX 2 22]) (.seq (.ops [oA 6 0 9, ⟨some 7, .convert 9 22 (.tmp 6), 22, none⟩, ⟨some 8, .buildSlice 22 1 #[(0, .const (.int .u8 128))], 22, none⟩, oV 9 7 8 22 22 22, oB 3 9 22]) (.seq (.block 0 (.loop q193l0)) (q193c4)))⟩
theorem Cv193 : convF Tryz.f193 = some q193 := by kernel_rfl
abbrev Fn194 : FuncId := 194
def q194c0 : QCode := .ops [oA 113 14 3, oAR 114 3 113 1 3 3, oB 14 114 3]
@[simp] theorem q194c0R : type_of% (run_is q194c0.eq_1) := run_is rfl
def q194c1 : QCode := .seq (.block 3 (.ops [oA 115 7 207, oA 116 14 3, oA 117 7 207, oA 118 14 3, oAR 119 3 118 1 3 3, oS 120 207 117 119 0, oC 121 206 120 206, oS 122 207 115 116 0, oM 206 122 121 0])) (q194c0)
@[simp] theorem q194c1R : type_of% (run_is q194c1.eq_1) := run_is rfl
def q194l0 : QCode := .seq (.seq (.ops [oA 111 14 3, oAI 112 3 111 0 3 4]) (.cond (.tmp 112) (.skip) (.exit 2))) (q194c1)
@[simp] theorem q194l0R : type_of% (run_is q194l0.eq_1) := run_is rfl
def q194c2 : QCode := .seq (.ops [oA 123 7 207, oA 124 7 207, ⟨some 125, .indexAddr 207 (.tmp 124) (.const (.int .i64 4)), 0, none⟩, oC 126 206 125 206, oA 127 11 206, oAL 128 206 126 127 206 206, ⟨some 129, .indexAddr 207 (.tmp 123) (.const (.int .i64 4)), 0, none⟩, oM 206 129 128 0]) (.ops [oA 130 7 207, oA 131 11 206, oA 132 12 206, oAL 133 206 131 132 206 206, oA 134 13 206, oAL 135 206 133 134 206 206, ⟨some 136, .indexAddr 207 (.tmp 130) (.const (.int .i64 0)), 0, none⟩, oM 206 136 135 0])
@[simp] theorem q194c2R : type_of% (run_is q194c2.eq_1) := run_is rfl
def q194c3 : QCode := .ops [oA 25 8 3, oJ 26 3 25 1 3 3, oB 8 26 3]
@[simp] theorem q194c3R : type_of% (run_is q194c3.eq_1) := run_is rfl
def q194c4 : QCode := .seq (.block 1 (.seq (.draw [] [⟨some 27, .move (.tmp 7), 207, none⟩, ⟨some 28, .indexAddr 207 (.tmp 27) (.const (.int .i64 4)), 0, none⟩, ⟨some 29, .load 206 (.tmp 28), 206, none⟩, ⟨some 30, .call { callee := .value (.func 213), args := #[.tmp 29, .const (.int .i64 6)], argTypes := #[206, 3] }, 206, none⟩, ⟨some 31, .move (.tmp 7), 207, none⟩, ⟨some 32, .indexAddr 207 (.tmp 31) (.const (.int .i64 4)), 0, none⟩, ⟨some 33, .load 206 (.tmp 32), 206, none⟩, ⟨some 34, .call { callee := .value (.func 213), args := #[.tmp 33, .const (.int .i64 11)], argTypes := #[206, 3] }, 206, none⟩, ⟨some 35, .binOp .xor 206 (.tmp 30) (.tmp 34) 206, 206, none⟩, ⟨some 36, .move (.tmp 7), 207, none⟩, ⟨some 37, .indexAddr 207 (.tmp 36) (.const (.int .i64 4)), 0, none⟩, ⟨some 38, .load 206 (.tmp 37), 206, none⟩, ⟨some 39, .call { callee := .value (.func 213), args := #[.tmp 38, .const (.int .i64 25)], argTypes := #[206, 3] }, 206, none⟩] [⟨some 40, .binOp .xor 206 (.tmp 35) (.tmp 39) 206, 206, none⟩, ⟨some 9, .assign (.tmp 40), 206, none⟩]) (.seq (.draw [] [⟨some 41, .move (.tmp 7), 207, none⟩, ⟨some 42, .indexAddr 207 (.tmp 41) (.const (.int .i64 4)), 0, none⟩, ⟨some 43, .load 206 (.tmp 42), 206, none⟩, ⟨some 44, .move (.tmp 7), 207, none⟩, ⟨some 45, .indexAddr 207 (.tmp 44) (.const (.int .i64 5)), 0, none⟩, ⟨some 46, .load 206 (.tmp 45), 206, none⟩, ⟨some 47, .binOp .and 206 (.tmp 43) (.tmp 46) 206, 206, none⟩, ⟨some 48, .move (.tmp 7), 207, none⟩, ⟨some 49, .indexAddr 207 (.tmp 48) (.const (.int .i64 4)), 0, none⟩, ⟨some 50, .load 206 (.tmp 49), 206, none⟩, ⟨some 51, .unOp .xor 206 (.tmp 50), 206, none⟩, ⟨some 52, .move (.tmp 7), 207, none⟩, ⟨some 53, .indexAddr 207 (.tmp 52) (.const (.int .i64 6)), 0, none⟩, ⟨some 54, .load 206 (.tmp 53), 206, none⟩, ⟨some 55, .binOp .and 206 (.tmp 51) (.tmp 54) 206, 206, none⟩] [⟨some 56, .binOp .xor 206 (.tmp 47) (.tmp 55) 206, 206, none⟩, ⟨some 10, .assign (.tmp 56), 206, none⟩]) (.seq (.draw [] [⟨some 57, .move (.tmp 7), 207, none⟩, ⟨some 58, .indexAddr 207 (.tmp 57) (.const (.int .i64 7)), 0, none⟩, ⟨some 59, .load 206 (.tmp 58), 206, none⟩, ⟨some 60, .move (.tmp 9), 206, none⟩, ⟨some 61, .binOp .add 206 (.tmp 59) (.tmp 60) 206, 206, none⟩, ⟨some 62, .move (.tmp 10), 206, none⟩, ⟨some 63, .binOp .add 206 (.tmp 61) (.tmp 62) 206, 206, none⟩, ⟨some 64, .move (.tmp 6), 207, none⟩, ⟨some 65, .move (.tmp 8), 3, none⟩, ⟨some 66, .indexAddr 207 (.tmp 64) (.tmp 65), 0, none⟩, ⟨some 67, .load 206 (.tmp 66), 206, none⟩, ⟨some 68, .binOp .add 206 (.tmp 63) (.tmp 67) 206, 206, none⟩, ⟨some 69, .move (.tmp 5), 207, none⟩, ⟨some 70, .move (.tmp 8), 3, none⟩, ⟨some 71, .indexAddr 207 (.tmp 69) (.tmp 70), 0, none⟩, ⟨some 72, .load 206 (.tmp 71), 206, none⟩] [⟨some 73, .binOp .add 206 (.tmp 68) (.tmp 72) 206, 206, none⟩, ⟨some 11, .assign (.tmp 73), 206, none⟩]) (.seq (.draw [] [⟨some 74, .move (.tmp 7), 207, none⟩, ⟨some 75, .indexAddr 207 (.tmp 74) (.const (.int .i64 0)), 0, none⟩, ⟨some 76, .load 206 (.tmp 75), 206, none⟩, ⟨some 77, .call { callee := .value (.func 213), args := #[.tmp 76, .const (.int .i64 2)], argTypes := #[206, 3] }, 206, none⟩, ⟨some 78, .move (.tmp 7), 207, none⟩, ⟨some 79, .indexAddr 207 (.tmp 78) (.const (.int .i64 0)), 0, none⟩, ⟨some 80, .load 206 (.tmp 79), 206, none⟩, ⟨some 81, .call { callee := .value (.func 213), args := #[.tmp 80, .const (.int .i64 13)], argTypes := #[206, 3] }, 206, none⟩, ⟨some 82, .binOp .xor 206 (.tmp 77) (.tmp 81) 206, 206, none⟩, ⟨some 83, .move (.tmp 7), 207, none⟩, ⟨some 84, .indexAddr 207 (.tmp 83) (.const (.int .i64 0)), 0, none⟩, ⟨some 85, .load 206 (.tmp 84), 206, none⟩, ⟨some 86, .call { callee := .value (.func 213), args := #[.tmp 85, .const (.int .i64 22)], argTypes := #[206, 3] }, 206, none⟩] [⟨some 87, .binOp .xor 206 (.tmp 82) (.tmp 86) 206, 206, none⟩, ⟨some 12, .assign (.tmp 87), 206, none⟩]) (.seq (.draw [] [⟨some 88, .move (.tmp 7), 207, none⟩, ⟨some 89, .indexAddr 207 (.tmp 88) (.const (.int .i64 0)), 0, none⟩, ⟨some 90, .load 206 (.tmp 89), 206, none⟩, ⟨some 91, .move (.tmp 7), 207, none⟩, ⟨some 92, .indexAddr 207 (.tmp 91) (.const (.int .i64 1)), 0, none⟩, ⟨some 93, .load 206 (.tmp 92), 206, none⟩, ⟨some 94, .binOp .and 206 (.tmp 90) (.tmp 93) 206, 206, none⟩, ⟨some 95, .move (.tmp 7), 207, none⟩, ⟨some 96, .indexAddr 207 (.tmp 95) (.const (.int .i64 0)), 0, none⟩, ⟨some 97, .load 206 (.tmp 96), 206, none⟩, ⟨some 98, .move (.tmp 7), 207, none⟩, ⟨some 99, .indexAddr 207 (.tmp 98) (.const (.int .i64 2)), 0, none⟩, ⟨some 100, .load 206 (.tmp 99), 206, none⟩, ⟨some 101, .binOp .and 206 (.tmp 97) (.tmp 100) 206, 206, none⟩, ⟨some 102, .binOp .xor 206 (.tmp 94) (.tmp 101) 206, 206, none⟩, ⟨some 103, .move (.tmp 7), 207, none⟩, ⟨some 104, .indexAddr 207 (.tmp 103) (.const (.int .i64 1)), 0, none⟩, ⟨some 105, .load 206 (.tmp 104), 206, none⟩, ⟨some 106, .move (.tmp 7), 207, none⟩, ⟨some 107, .indexAddr 207 (.tmp 106) (.const (.int .i64 2)), 0, none⟩, ⟨some 108, .load 206 (.tmp 107), 206, none⟩, ⟨some 109, .binOp .and 206 (.tmp 105) (.tmp 108) 206, 206, none⟩] [⟨some 110, .binOp .xor 206 (.tmp 102) (.tmp 109) 206, 206, none⟩, ⟨some 13, .assign (.tmp 110), 206, none⟩]) (.seq (.seq (.ops [oG 14 7 3]) (.block 2 (.loop q194l0))) (q194c2)))))))) (q194c3)
@[simp] theorem q194c4R : type_of% (run_is q194c4.eq_1) := run_is rfl
def q194l1 : QCode := .seq (.seq (.ops [oA 23 8 3, oAN 24 3 23 64 3 4]) (.cond (.tmp 24) (.skip) (.exit 0))) (q194c4)
@[simp] theorem q194l1R : type_of% (run_is q194l1.eq_1) := run_is rfl
def q194c5 : QCode := .ops [oA 140 16 3, oJ 141 3 140 1 3 3, oB 16 141 3]
@[simp] theorem q194c5R : type_of% (run_is q194c5.eq_1) := run_is rfl
def q194c6 : QCode := .seq (.block 5 (.draw [] [⟨some 142, .move (.tmp 15), 207, none⟩, ⟨some 143, .move (.tmp 0), 207, none⟩, ⟨some 144, .move (.tmp 16), 3, none⟩, ⟨some 145, .indexAddr 207 (.tmp 143) (.tmp 144), 0, none⟩, ⟨some 146, .load 206 (.tmp 145), 206, none⟩, ⟨some 147, .move (.tmp 7), 207, none⟩, ⟨some 148, .move (.tmp 16), 3, none⟩, ⟨some 149, .indexAddr 207 (.tmp 147) (.tmp 148), 0, none⟩, ⟨some 150, .load 206 (.tmp 149), 206, none⟩] [⟨some 151, .binOp .add 206 (.tmp 146) (.tmp 150) 206, 206, none⟩, ⟨some 152, .buildSlice 207 1 #[(0, .tmp 151)], 207, none⟩, ⟨some 153, .call { callee := .builtin .append, args := #[.tmp 142, .tmp 152], argTypes := #[207, 207] }, 207, none⟩, ⟨some 15, .assign (.tmp 153), 207, none⟩])) (q194c5)
@[simp] theorem q194c6R : type_of% (run_is q194c6.eq_1) := run_is rfl
def q194l2 : QCode := .seq (.seq (.ops [oA 138 16 3, oAN 139 3 138 8 3 4]) (.cond (.tmp 139) (.skip) (.exit 4))) (q194c6)
@[simp] theorem q194l2R : type_of% (run_is q194l2.eq_1) := run_is rfl
def q194c7 : QCode := .seq (.ops [oA 154 15 207, oB 4 154 207]) (.ret)
@[simp] theorem q194c7R : type_of% (run_is q194c7.eq_1) := run_is rfl
def q194c8 : QCode := .seq (.ops [⟨some 137, .buildSlice 207 0 #[], 207, none⟩, oB 15 137 207]) (.seq (.seq (.ops [oG 16 0 3]) (.block 4 (.loop q194l2))) (q194c7))
@[simp] theorem q194c8R : type_of% (run_is q194c8.eq_1) := run_is rfl
@[simp] def q194 : QFn := ⟨155, [(.tmp 4, 207)], .seq (.ops [oX 4 207]) (.seq (.ops [oA 17 1 22, oH 18 211 17 22 207, oB 5 18 207]) (.seq (.ops [⟨some 19, .call { callee := .value (.func 212), args := #[], argTypes := #[] }, 207, none⟩, oB 6 19 207]) (.seq (.ops [⟨some 20, .buildSlice 207 0 #[], 207, none⟩, oA 21 0 207, oV 22 20 21 207 207 207, oB 7 22 207]) (.seq (.seq (.ops [oG 8 0 3]) (.block 0 (.loop q194l1))) (q194c8)))))⟩
theorem Cv194 : convF Tryz.f194 = some q194 := by kernel_rfl
abbrev Fn195 : FuncId := 195
@[simp] def q195 : QFn := ⟨29, [(.tmp 2, 4)], .seq (.ops [oD 2 4]) (.seq (.ops [oA 3 0 5, ⟨some 4, .binOp .geq 5 (.tmp 3) (.const (.int .u8 97)) 5, 4, none⟩, oA 5 4 4, oO 6 0 5 5, oAT 7 5 6 122 5 4 5, oP 8 5 7 4, oA 9 8 4, oI 10 0 5 9, ⟨some 11, .binOp .geq 5 (.tmp 10) (.const (.int .u8 48)) 5, 4, some (9, false)⟩, oI 12 11 4 9, oO 13 0 5 12, oAT 14 5 13 57 5 4 12, ⟨some 15, .pick (.tmp 12) (.tmp 14) (.const (.bool false)), 4, some (9, false)⟩, oN 16 9 15 4, oA 17 16 4, oI 18 0 5 17, ⟨some 19, .binOp .eql 5 (.tmp 18) (.const (.int .u8 46)) 5, 4, some (17, false)⟩, oN 20 17 19 4, oA 21 20 4, oI 22 0 5 21, ⟨some 23, .binOp .eql 5 (.tmp 22) (.const (.int .u8 95)) 5, 4, some (21, false)⟩, oN 24 21 23 4, oA 25 24 4, oI 26 0 5 25, ⟨some 27, .binOp .eql 5 (.tmp 26) (.const (.int .u8 45)) 5, 4, some (25, false)⟩, oN 28 25 27 4, oB 2 28 4]) (.ret))⟩
theorem Cv195 : convF Tryz.f195 = some q195 := by kernel_rfl
abbrev Fn196 : FuncId := 196
def q196c0 : QCode := .ops [oC 40 241 9 241, oA 41 8 3, oJ 42 3 41 1 3 3, oM 241 7 40 0, oB 6 42 3]
@[simp] theorem q196c0R : type_of% (run_is q196c0.eq_1) := run_is rfl
def q196c1 : QCode := .seq (.ops [oA 32 0 9, oA 33 8 3, ⟨some 34, .slice 9 (.tmp 32) (some (.const (.int .i64 1))) (some (.tmp 33)) none, 9, none⟩, oH 35 215 34 9 242, oA 31 35 242, oQ 36 31 0 241, oQ 37 31 1 4, oR 9 241 0, oM 241 9 36 0, oB 10 37 4]) (.seq (.seq (.ops [oA 38 10 4, oT 39 4 38 4]) (.cond (.tmp 39) (.seq (.ops [oX 2 211, oD 3 4]) (.ret)) (.skip))) (q196c0))
@[simp] theorem q196c1R : type_of% (run_is q196c1.eq_1) := run_is rfl
def q196c2 : QCode := .seq (.ops [oA 48 4 211, oC 49 241 7 241, oZ 50 211 1 0 49 211, oV 51 48 50 211 211 211, oB 4 51 211]) (.ops [oA 52 0 9, oA 53 6 3, ⟨some 54, .slice 9 (.tmp 52) (some (.tmp 53)) none none, 9, none⟩, oB 0 54 9])
@[simp] theorem q196c2R : type_of% (run_is q196c2.eq_1) := run_is rfl
def q196c3 : QCode := .block 1 (.seq (.ops [oA 13 0 9, ⟨some 14, .index 9 (.tmp 13) (.const (.int .i64 0)), 5, none⟩, oR 5 5 0, oM 5 5 14 0]) (.seq (.ops [oG 6 1 3]) (.seq (.ops [⟨some 15, .build 241 #[], 241, none⟩, oR 7 241 0, oM 241 7 15 0]) (.seq (.block 2 (.seq (.ops [oC 17 5 5 5, ⟨some 18, .binOp .eql 5 (.tmp 17) (.const (.int .u8 42)) 5, 4, none⟩, oB 16 18 4]) (.cond (.tmp 16) (.ops [oF 19 241 7 0 0, ⟨none, .store 4 (.tmp 19) (.const (.bool true)), 0, none⟩]) (.seq (.ops [oC 21 5 5 5, ⟨some 22, .binOp .eql 5 (.tmp 21) (.const (.int .u8 63)) 5, 4, none⟩, oB 20 22 4]) (.cond (.tmp 20) (.ops [oF 23 241 7 1 0, ⟨none, .store 176 (.tmp 23) (.func 214), 0, none⟩]) (.seq (.ops [oC 25 5 5 5, ⟨some 26, .binOp .eql 5 (.tmp 25) (.const (.int .u8 91)) 5, 4, none⟩, oB 24 26 4]) (.cond (.tmp 24) (.seq (.ops [oA 27 0 9, ⟨some 28, .call { callee := .value (.func 209), args := #[.tmp 27, .const (.int .u8 93)], argTypes := #[9, 5] }, 3, none⟩, oB 8 28 3]) (.seq (.seq (.ops [oA 29 8 3, oAN 30 3 29 0 3 4]) (.cond (.tmp 30) (.seq (.ops [oX 2 211, oD 3 4]) (.ret)) (.skip))) (q196c1))) (.seq (.ops [oC 44 5 5 5, oH 45 195 44 5 4, oB 43 45 4]) (.cond (.tmp 43) (.ops [⟨some 46, .makeFunc (.func 216) #[] #[.tmp 5], 176, none⟩, oF 47 241 7 1 0, oM 176 47 46 0]) (.seq (.ops [oX 2 211, oD 3 4]) (.ret))))))))))) (q196c2)))))
@[simp] theorem q196c3R : type_of% (run_is q196c3.eq_1) := run_is rfl
def q196l0 : QCode := .seq (.seq (.ops [oA 11 0 9, ⟨some 12, .binOp .neq 9 (.tmp 11) (.const (.string { data := #[] })) 9, 4, none⟩]) (.cond (.tmp 12) (.skip) (.exit 0))) (q196c3)
@[simp] theorem q196l0R : type_of% (run_is q196l0.eq_1) := run_is rfl
def q196c4 : QCode := .seq (.ops [oA 55 4 211, oA 56 4 211, oE 57 56 211 3, oAI 58 3 57 0 3 4, oB 2 55 211, oB 3 58 4]) (.ret)
@[simp] theorem q196c4R : type_of% (run_is q196c4.eq_1) := run_is rfl
@[simp] def q196 : QFn := ⟨59, [(.tmp 2, 211), (.tmp 3, 4)], .seq (.ops [oX 2 211, oD 3 4]) (.seq (.ops [oX 4 211]) (.seq (.block 0 (.loop q196l0)) (q196c4)))⟩
theorem Cv196 : convF Tryz.f196 = some q196 := by kernel_rfl
abbrev Fn199 : FuncId := 199
@[simp] def q199 : QFn := ⟨8, [(.tmp 4, 9)], .seq (.ops [oL 4 9]) (.seq (.ops [oA 5 0 9, oA 6 1 9, oU 7 217 5 6 9 9 9, oB 4 7 9]) (.ret))⟩
theorem Cv199 : convF Tryz.f199 = some q199 := by kernel_rfl
abbrev Fn200 : FuncId := 200
@[simp] def q200 : QFn := ⟨8, [(.tmp 3, 4)], .seq (.ops [oY 2 33 0 0, oD 3 4]) (.seq (.ops [oF 4 33 2 0 0, oC 5 9 4 9, oC 6 9 1 9, ⟨some 7, .binOp .eql 9 (.tmp 5) (.tmp 6) 9, 4, none⟩, oB 3 7 4]) (.ret))⟩
theorem Cv200 : convF Tryz.f200 = some q200 := by kernel_rfl
abbrev Fn211 : FuncId := 211
def q211c0 : QCode := .ops [oA 13 4 3, oJ 14 3 13 1 3 3, oB 4 14 3]
@[simp] theorem q211c0R : type_of% (run_is q211c0.eq_1) := run_is rfl
def q211c1 : QCode := .seq (.block 1 (.draw [] [⟨some 15, .move (.tmp 3), 207, none⟩, ⟨some 16, .move (.tmp 0), 22, none⟩, ⟨some 17, .move (.tmp 4), 3, none⟩, ⟨some 18, .binOp .mul 3 (.const (.int .i64 4)) (.tmp 17) 3, 3, none⟩, ⟨some 19, .indexAddr 22 (.tmp 16) (.tmp 18), 0, none⟩, ⟨some 20, .load 5 (.tmp 19), 5, none⟩, ⟨some 21, .convert 5 206 (.tmp 20), 206, none⟩, ⟨some 22, .binOp .shl 206 (.tmp 21) (.const (.int .u64 24)) 210, 206, none⟩, ⟨some 23, .move (.tmp 0), 22, none⟩, ⟨some 24, .move (.tmp 4), 3, none⟩, ⟨some 25, .binOp .mul 3 (.const (.int .i64 4)) (.tmp 24) 3, 3, none⟩, ⟨some 26, .binOp .add 3 (.tmp 25) (.const (.int .i64 1)) 3, 3, none⟩, ⟨some 27, .indexAddr 22 (.tmp 23) (.tmp 26), 0, none⟩, ⟨some 28, .load 5 (.tmp 27), 5, none⟩, ⟨some 29, .convert 5 206 (.tmp 28), 206, none⟩, ⟨some 30, .binOp .shl 206 (.tmp 29) (.const (.int .u64 16)) 210, 206, none⟩, ⟨some 31, .binOp .or 206 (.tmp 22) (.tmp 30) 206, 206, none⟩, ⟨some 32, .move (.tmp 0), 22, none⟩, ⟨some 33, .move (.tmp 4), 3, none⟩, ⟨some 34, .binOp .mul 3 (.const (.int .i64 4)) (.tmp 33) 3, 3, none⟩, ⟨some 35, .binOp .add 3 (.tmp 34) (.const (.int .i64 2)) 3, 3, none⟩, ⟨some 36, .indexAddr 22 (.tmp 32) (.tmp 35), 0, none⟩, ⟨some 37, .load 5 (.tmp 36), 5, none⟩, ⟨some 38, .convert 5 206 (.tmp 37), 206, none⟩, ⟨some 39, .binOp .shl 206 (.tmp 38) (.const (.int .u64 8)) 210, 206, none⟩, ⟨some 40, .binOp .or 206 (.tmp 31) (.tmp 39) 206, 206, none⟩, ⟨some 41, .move (.tmp 0), 22, none⟩, ⟨some 42, .move (.tmp 4), 3, none⟩, ⟨some 43, .binOp .mul 3 (.const (.int .i64 4)) (.tmp 42) 3, 3, none⟩, ⟨some 44, .binOp .add 3 (.tmp 43) (.const (.int .i64 3)) 3, 3, none⟩, ⟨some 45, .indexAddr 22 (.tmp 41) (.tmp 44), 0, none⟩, ⟨some 46, .load 5 (.tmp 45), 5, none⟩, ⟨some 47, .convert 5 206 (.tmp 46), 206, none⟩] [⟨some 48, .binOp .or 206 (.tmp 40) (.tmp 47) 206, 206, none⟩, ⟨some 49, .buildSlice 207 1 #[(0, .tmp 48)], 207, none⟩, ⟨some 50, .call { callee := .builtin .append, args := #[.tmp 15, .tmp 49], argTypes := #[207, 207] }, 207, none⟩, ⟨some 3, .assign (.tmp 50), 207, none⟩])) (q211c0)
@[simp] theorem q211c1R : type_of% (run_is q211c1.eq_1) := run_is rfl
def q211l0 : QCode := .seq (.seq (.ops [oA 11 4 3, oAN 12 3 11 16 3 4]) (.cond (.tmp 12) (.skip) (.exit 0))) (q211c1)
@[simp] theorem q211l0R : type_of% (run_is q211l0.eq_1) := run_is rfl
def q211c2 : QCode := .ops [oA 53 5 3, oJ 54 3 53 1 3 3, oB 5 54 3]
@[simp] theorem q211c2R : type_of% (run_is q211c2.eq_1) := run_is rfl
def q211c3 : QCode := .seq (.block 3 (.seq (.ops [oA 55 3 207, oA 56 5 3, oAR 57 3 56 15 3 3, oS 58 207 55 57 0, oC 59 206 58 206, oB 6 59 206]) (.seq (.ops [oA 60 3 207, oA 61 5 3, oAR 62 3 61 2 3 3, oS 63 207 60 62 0, oC 64 206 63 206, oB 7 64 206]) (.seq (.ops [oA 65 6 206, oAC 66 213 65 7 206 3 206, oA 67 6 206, oAC 68 213 67 18 206 3 206, ⟨some 69, .binOp .xor 206 (.tmp 66) (.tmp 68) 206, 206, none⟩, oA 70 6 206, ⟨some 71, .binOp .shr 206 (.tmp 70) (.const (.int .u64 3)) 210, 206, none⟩, ⟨some 72, .binOp .xor 206 (.tmp 69) (.tmp 71) 206, 206, none⟩, oB 8 72 206]) (.seq (.ops [oA 73 7 206, oAC 74 213 73 17 206 3 206, oA 75 7 206, oAC 76 213 75 19 206 3 206, ⟨some 77, .binOp .xor 206 (.tmp 74) (.tmp 76) 206, 206, none⟩, oA 78 7 206, ⟨some 79, .binOp .shr 206 (.tmp 78) (.const (.int .u64 10)) 210, 206, none⟩, ⟨some 80, .binOp .xor 206 (.tmp 77) (.tmp 79) 206, 206, none⟩, oB 9 80 206]) (.draw [] [⟨some 81, .move (.tmp 3), 207, none⟩, ⟨some 82, .move (.tmp 3), 207, none⟩, ⟨some 83, .move (.tmp 5), 3, none⟩, ⟨some 84, .binOp .sub 3 (.tmp 83) (.const (.int .i64 16)) 3, 3, none⟩, ⟨some 85, .indexAddr 207 (.tmp 82) (.tmp 84), 0, none⟩, ⟨some 86, .load 206 (.tmp 85), 206, none⟩, ⟨some 87, .move (.tmp 8), 206, none⟩, ⟨some 88, .binOp .add 206 (.tmp 86) (.tmp 87) 206, 206, none⟩, ⟨some 89, .move (.tmp 3), 207, none⟩, ⟨some 90, .move (.tmp 5), 3, none⟩, ⟨some 91, .binOp .sub 3 (.tmp 90) (.const (.int .i64 7)) 3, 3, none⟩, ⟨some 92, .indexAddr 207 (.tmp 89) (.tmp 91), 0, none⟩, ⟨some 93, .load 206 (.tmp 92), 206, none⟩, ⟨some 94, .binOp .add 206 (.tmp 88) (.tmp 93) 206, 206, none⟩, ⟨some 95, .move (.tmp 9), 206, none⟩] [⟨some 96, .binOp .add 206 (.tmp 94) (.tmp 95) 206, 206, none⟩, ⟨some 97, .buildSlice 207 1 #[(0, .tmp 96)], 207, none⟩, ⟨some 98, .call { callee := .builtin .append, args := #[.tmp 81, .tmp 97], argTypes := #[207, 207] }, 207, none⟩, ⟨some 3, .assign (.tmp 98), 207, none⟩])))))) (q211c2)
@[simp] theorem q211c3R : type_of% (run_is q211c3.eq_1) := run_is rfl
def q211l1 : QCode := .seq (.seq (.ops [oA 51 5 3, oAN 52 3 51 64 3 4]) (.cond (.tmp 52) (.skip) (.exit 2))) (q211c3)
@[simp] theorem q211l1R : type_of% (run_is q211l1.eq_1) := run_is rfl
def q211c4 : QCode := .seq (.ops [oA 99 3 207, oB 2 99 207]) (.ret)
@[simp] theorem q211c4R : type_of% (run_is q211c4.eq_1) := run_is rfl
def q211c5 : QCode := .seq (.seq (.ops [oG 5 16 3]) (.block 2 (.loop q211l1))) (q211c4)
@[simp] theorem q211c5R : type_of% (run_is q211c5.eq_1) := run_is rfl
@[simp] def q211 : QFn := ⟨100, [(.tmp 2, 207)], .seq (.ops [oX 2 207]) (.seq (.ops [⟨some 10, .makeSlice 207 (.const (.int .i64 0)) (.const (.int .i64 64)), 207, none⟩, oB 3 10 207]) (.seq (.seq (.ops [oG 4 0 3]) (.block 0 (.loop q211l0))) (q211c5)))⟩
theorem Cv211 : convF Tryz.f211 = some q211 := by kernel_rfl
abbrev Fn212 : FuncId := 212
@[simp] def q212 : QFn := ⟨2, [(.tmp 0, 207)], .seq (.ops [oX 0 207]) (.seq (.ops [⟨some 1, .buildSlice 207 64 #[(0, .const (.int .u32 1116352408)), (1, .const (.int .u32 1899447441)), (2, .const (.int .u32 3049323471)), (3, .const (.int .u32 3921009573)), (4, .const (.int .u32 961987163)), (5, .const (.int .u32 1508970993)), (6, .const (.int .u32 2453635748)), (7, .const (.int .u32 2870763221)), (8, .const (.int .u32 3624381080)), (9, .const (.int .u32 310598401)), (10, .const (.int .u32 607225278)), (11, .const (.int .u32 1426881987)), (12, .const (.int .u32 1925078388)), (13, .const (.int .u32 2162078206)), (14, .const (.int .u32 2614888103)), (15, .const (.int .u32 3248222580)), (16, .const (.int .u32 3835390401)), (17, .const (.int .u32 4022224774)), (18, .const (.int .u32 264347078)), (19, .const (.int .u32 604807628)), (20, .const (.int .u32 770255983)), (21, .const (.int .u32 1249150122)), (22, .const (.int .u32 1555081692)), (23, .const (.int .u32 1996064986)), (24, .const (.int .u32 2554220882)), (25, .const (.int .u32 2821834349)), (26, .const (.int .u32 2952996808)), (27, .const (.int .u32 3210313671)), (28, .const (.int .u32 3336571891)), (29, .const (.int .u32 3584528711)), (30, .const (.int .u32 113926993)), (31, .const (.int .u32 338241895)), (32, .const (.int .u32 666307205)), (33, .const (.int .u32 773529912)), (34, .const (.int .u32 1294757372)), (35, .const (.int .u32 1396182291)), (36, .const (.int .u32 1695183700)), (37, .const (.int .u32 1986661051)), (38, .const (.int .u32 2177026350)), (39, .const (.int .u32 2456956037)), (40, .const (.int .u32 2730485921)), (41, .const (.int .u32 2820302411)), (42, .const (.int .u32 3259730800)), (43, .const (.int .u32 3345764771)), (44, .const (.int .u32 3516065817)), (45, .const (.int .u32 3600352804)), (46, .const (.int .u32 4094571909)), (47, .const (.int .u32 275423344)), (48, .const (.int .u32 430227734)), (49, .const (.int .u32 506948616)), (50, .const (.int .u32 659060556)), (51, .const (.int .u32 883997877)), (52, .const (.int .u32 958139571)), (53, .const (.int .u32 1322822218)), (54, .const (.int .u32 1537002063)), (55, .const (.int .u32 1747873779)), (56, .const (.int .u32 1955562222)), (57, .const (.int .u32 2024104815)), (58, .const (.int .u32 2227730452)), (59, .const (.int .u32 2361852424)), (60, .const (.int .u32 2428436474)), (61, .const (.int .u32 2756734187)), (62, .const (.int .u32 3204031479)), (63, .const (.int .u32 3329325298))], 207, none⟩, oB 0 1 207]) (.ret))⟩
theorem Cv212 : convF Tryz.f212 = some q212 := by kernel_rfl
abbrev Fn213 : FuncId := 213
@[simp] def q213 : QFn := ⟨13, [(.tmp 4, 206)], .seq (.ops [⟨some 4, .assign (.const (.int .u32 0)), 206, none⟩]) (.seq (.draw [] [⟨some 5, .move (.tmp 0), 206, none⟩, ⟨some 6, .move (.tmp 1), 3, none⟩, ⟨some 7, .binOp .shr 206 (.tmp 5) (.tmp 6) 3, 206, none⟩, ⟨some 8, .move (.tmp 0), 206, none⟩, ⟨some 9, .move (.tmp 1), 3, none⟩, ⟨some 10, .binOp .sub 3 (.const (.int .i64 32)) (.tmp 9) 3, 3, none⟩, ⟨some 11, .binOp .shl 206 (.tmp 8) (.tmp 10) 3, 206, none⟩] [⟨some 12, .binOp .or 206 (.tmp 7) (.tmp 11) 206, 206, none⟩, ⟨some 4, .assign (.tmp 12), 206, none⟩]) (.ret))⟩
theorem Cv213 : convF Tryz.f213 = some q213 := by kernel_rfl
abbrev Fn215 : FuncId := 215
def q215c0 : QCode := .seq (.ops [⟨some 16, .makeFunc (.func 224) #[] #[.tmp 4, .tmp 5], 176, none⟩, oB 6 16 176]) (.seq (.ops [oA 17 6 176, ⟨some 18, .build 241 #[(1, .tmp 17)], 241, none⟩, oM 241 2 18 0, oAB 3 4]) (.ret))
@[simp] theorem q215c0R : type_of% (run_is q215c0.eq_1) := run_is rfl
@[simp] def q215 : QFn := ⟨19, [(.cell 2 241, 241), (.tmp 3, 4)], .seq (.ops [oR 2 241 0, oD 3 4]) (.seq (.ops [oA 8 0 9, ⟨some 9, .call { callee := .value (.func 223), args := #[.tmp 8, .const (.string { data := #[33] })], argTypes := #[9, 9] }, 101, none⟩, oA 7 9 101, oQ 10 7 0 9, oQ 11 7 1 4, oR 4 9 0, oR 5 4 0, oM 9 4 10 0, oM 4 5 11 0]) (.seq (.seq (.ops [oC 12 9 4 9, oH 13 175 12 9 4, oT 14 4 13 4]) (.cond (.tmp 14) (.seq (.ops [⟨some 15, .build 241 #[], 241, none⟩, oM 241 2 15 0, oD 3 4]) (.ret)) (.skip))) (q215c0)))⟩
theorem Cv215 : convF Tryz.f215 = some q215 := by kernel_rfl
abbrev Fn217 : FuncId := 217
def q217c0 : QCode := .seq (.ops [oA 12 0 9, oB 4 12 9]) (.ret)
@[simp] def q217 : QFn := ⟨13, [(.tmp 4, 9)], .seq (.ops [oL 4 9]) (.seq (.seq (.ops [oA 5 0 9, oA 6 1 9, oU 7 192 5 6 9 9 4]) (.cond (.tmp 7) (.seq (.ops [oA 8 0 9, oA 9 1 9, oE 10 9 9 3, ⟨some 11, .slice 9 (.tmp 8) (some (.tmp 10)) none none, 9, none⟩, oB 4 11 9]) (.ret)) (.skip))) (q217c0))⟩
theorem Cv217 : convF Tryz.f217 = some q217 := by kernel_rfl
abbrev Fn223 : FuncId := 223
@[simp] def q223 : QFn := ⟨11, [(.tmp 4, 9), (.tmp 5, 4)], .seq (.ops [oL 4 9, oD 5 4]) (.seq (.ops [oA 6 0 9, oA 7 1 9, oU 8 225 6 7 9 9 101, oQ 9 8 0 9, oQ 10 8 1 4, oB 4 9 9, oB 5 10 4]) (.ret))⟩
theorem Cv223 : convF Tryz.f223 = some q223 := by kernel_rfl
abbrev Fn225 : FuncId := 225
def q225c0 : QCode := .seq (.ops [oA 11 0 9, oA 12 1 9, oE 13 12 9 3, ⟨some 14, .slice 9 (.tmp 11) (some (.tmp 13)) none none, 9, none⟩, oB 4 14 9, oAB 5 4]) (.ret)
@[simp] theorem q225c0R : type_of% (run_is q225c0.eq_1) := run_is rfl
@[simp] def q225 : QFn := ⟨15, [(.tmp 4, 9), (.tmp 5, 4)], .seq (.ops [oL 4 9, oD 5 4]) (.seq (.seq (.ops [oA 6 0 9, oA 7 1 9, oU 8 192 6 7 9 9 4, oT 9 4 8 4]) (.cond (.tmp 9) (.seq (.ops [oA 10 0 9, oB 4 10 9, oD 5 4]) (.ret)) (.skip))) (q225c0))⟩
theorem Cv225 : convF Tryz.f225 = some q225 := by kernel_rfl
end Go.Qz
