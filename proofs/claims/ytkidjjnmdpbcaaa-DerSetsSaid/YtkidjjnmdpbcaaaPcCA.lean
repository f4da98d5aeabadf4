/- The compiled code of functions of the program (printed by a program of this repo), and that it is theirs. -/
import Derived.Test.YtkidjjnmdpbcaaaPcVL
import Derived.Test.YtkidjjnmdpbcaaaProg
import Derived.KernelRfl
set_option maxRecDepth 100000
namespace Go.Proofs.Ytkidjjnmdpbcaaa.V
/-- chancery/chancerylaw01.names -/
def E14 : Env := ⟨[], 1⟩
def pc14 : PC := (.seq (.ops [⟨none, (some 0), (.pure 0 .mv [(.const (.bool false))])⟩]) (.seq (.ops [⟨none, (some 0), (.pure 0 .mv [(.const (.bool true))])⟩]) .ret))
theorem comp14 : Comp Try.prog 14 E14 0 [(.slot 0)] pc14 := ⟨_, _, Try.func14, rfl, by kernel_rfl, by decide, by kernel_rfl, by kernel_rfl, by kernel_rfl⟩
/-- chancery/chancerylaw01.lent -/
def E15 : Env := ⟨[], 11⟩
def pc15 : PC := (.seq (.ops [⟨none, (some 2), (.pure 2 .mv [(.const (.slice none 0 0))])⟩]) (.seq (.ops [⟨none, (some 3), (.bslice 3 5 0 #[] [] [])⟩, ⟨none, (some 4), (.pure 4 .mv [(.tmp 0)])⟩, ⟨none, (some 5), (.append 5 5 1 1 #[(.int .u8 0)] (.tmp 3) (.tmp 4))⟩, ⟨none, (some 6), (.bslice 6 5 1 #[(.int .u8 0)] [(0, 1)] [(.const (.int .u8 90))])⟩, ⟨none, (some 7), (.append 7 5 1 1 #[(.int .u8 0)] (.tmp 5) (.tmp 6))⟩, ⟨none, (some 8), (.pure 8 .mv [(.tmp 0)])⟩, ⟨none, (some 9), (.pure 9 .lenL [(.tmp 8)])⟩, ⟨none, (some 10), (.pure 10 (.slc 1 false true false) [(.tmp 7), (.tmp 9)])⟩, ⟨none, (some 2), (.pure 2 .mv [(.tmp 10)])⟩]) .ret))
theorem comp15 : Comp Try.prog 15 E15 1 [(.slot 2)] pc15 := ⟨_, _, Try.func15, rfl, by kernel_rfl, by decide, by kernel_rfl, by kernel_rfl, by kernel_rfl⟩
/-- chancery/chancerylaw01.spoil -/
def E18 : Env := ⟨[], 20⟩
def pc18 : PC := (.seq (.seq (.ops [⟨none, (some 2), (.pure 2 .mv [(.const (.int .i64 0))])⟩]) (.block 0 (.loop (.seq (.seq (.ops [⟨none, (some 3), (.pure 3 .mv [(.tmp 2)])⟩, ⟨none, (some 4), (.pure 4 .mv [(.tmp 0)])⟩, ⟨none, (some 5), (.pure 5 .lenL [(.tmp 4)])⟩, ⟨none, (some 6), (.pure 6 (.bin .lss) [(.tmp 3), (.tmp 5)])⟩]) (.cond (.tmp 6) .skip (.exit 0))) (.seq (.block 1 (.ops [⟨none, (some 9), (.pure 9 .mv [(.tmp 0)])⟩, ⟨none, (some 10), (.pure 10 .mv [(.tmp 2)])⟩, ⟨none, (some 11), (.pure 11 .mv [(.tmp 0)])⟩, ⟨none, (some 12), (.pure 12 .mv [(.tmp 2)])⟩, ⟨none, (some 13), (.pure 13 (.iptrS 1) [(.tmp 11), (.tmp 12)])⟩, ⟨none, (some 14), (.hload 14 1 false (.tmp 13))⟩, ⟨none, (some 15), (.pure 15 (.bin .add) [(.tmp 14), (.const (.int .u8 1))])⟩, ⟨none, (some 16), (.pure 16 (.iptrS 1) [(.tmp 9), (.tmp 10)])⟩, ⟨none, none, (.hstore 1 (.tmp 16) (.tmp 15))⟩])) (.ops [⟨none, (some 7), (.pure 7 .mv [(.tmp 2)])⟩, ⟨none, (some 8), (.pure 8 (.bin .add) [(.tmp 7), (.const (.int .i64 1))])⟩, ⟨none, (some 2), (.pure 2 .mv [(.tmp 8)])⟩])))))) (.ops [⟨none, (some 17), (.pure 17 .mv [(.tmp 0)])⟩, ⟨none, (some 18), (.bslice 18 5 3 #[(.int .u8 0), (.int .u8 0), (.int .u8 0)] [(0, 1), (1, 1), (2, 1)] [(.const (.int .u8 1)), (.const (.int .u8 2)), (.const (.int .u8 3))])⟩, ⟨none, (some 19), (.append 19 5 1 1 #[(.int .u8 0)] (.tmp 17) (.tmp 18))⟩, ⟨none, (some 0), (.pure 0 .mv [(.tmp 19)])⟩]))
theorem comp18 : Comp Try.prog 18 E18 1 [] pc18 := ⟨_, _, Try.func18, rfl, by kernel_rfl, by decide, by kernel_rfl, by kernel_rfl, by kernel_rfl⟩
/-- chancery/chancerylaw01.kept -/
def E19 : Env := ⟨[], 15⟩
def pc19 : PC := (.seq (.ops [⟨none, (some 4), (.pure 4 .mv [(.const (.bool false))])⟩]) (.seq (.draw [] (.take 0 ⟨none, (some 5), (.pure 5 .mv [(.tmp 0)])⟩ (.take 1 ⟨none, (some 6), (.pure 6 .mv [(.tmp 1)])⟩ (.take 2 ⟨none, (some 7), (.pure 7 .lenL [(.tmp 6)])⟩ (.take 3 ⟨none, (some 8), (.pure 8 (.bin .add) [(.tmp 7), (.const (.int .i64 1))])⟩ (.take 4 ⟨none, (some 9), (.pure 9 (.slc 1 false true false) [(.tmp 5), (.tmp 8)])⟩ (.take 5 ⟨none, (some 10), (.b2s 10 (.tmp 9))⟩ (.take 6 ⟨none, (some 11), (.pure 11 .mv [(.tmp 1)])⟩ (.take 7 ⟨none, (some 12), (.b2s 12 (.tmp 11))⟩ (.take 8 ⟨none, (some 13), (.pure 13 (.bin .add) [(.tmp 12), (.const (.string ⟨#[90]⟩))])⟩ (.take 9 ⟨none, (some 14), (.pure 14 (.bin .eql) [(.tmp 10), (.tmp 13)])⟩ (.take 10 ⟨none, (some 4), (.pure 4 .mv [(.tmp 14)])⟩ .done)))))))))))) .ret))
theorem comp19 : Comp Try.prog 19 E19 2 [(.slot 4)] pc19 := ⟨_, _, Try.func19, rfl, by kernel_rfl, by decide, by kernel_rfl, by kernel_rfl, by kernel_rfl⟩
/-- slices.Clone[[]byte,byte] -/
def E41 : Env := ⟨[], 8⟩
def pc41 : PC := (.seq (.ops [⟨none, (some 2), (.pure 2 .mv [(.const (.slice none 0 0))])⟩]) (.seq (.seq (.ops [⟨none, (some 3), (.pure 3 .mv [(.tmp 0)])⟩, ⟨none, (some 4), (.pure 4 (.nilS false) [(.tmp 3), (.const (.slice none 0 0))])⟩]) (.cond (.tmp 4) (.seq (.ops [⟨none, (some 2), (.pure 2 .mv [(.const (.slice none 0 0))])⟩]) .ret) .skip)) (.seq (.ops [⟨none, (some 5), (.bslice 5 5 0 #[] [] [])⟩, ⟨none, (some 6), (.pure 6 .mv [(.tmp 0)])⟩, ⟨none, (some 7), (.append 7 5 1 1 #[(.int .u8 0)] (.tmp 5) (.tmp 6))⟩, ⟨none, (some 2), (.pure 2 .mv [(.tmp 7)])⟩]) .ret)))
theorem comp41 : Comp Try.prog 41 E41 1 [(.slot 2)] pc41 := ⟨_, _, Try.func41, rfl, by kernel_rfl, by decide, by kernel_rfl, by kernel_rfl, by kernel_rfl⟩
end Go.Proofs.Ytkidjjnmdpbcaaa.V
