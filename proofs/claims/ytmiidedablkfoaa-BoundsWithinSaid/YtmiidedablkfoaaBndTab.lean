/- The seat's functions, each called by its body. -/
import Derived.Test.YtmiidedablkfoaaSxW
import Derived.KernelRfl
import Derived.Test.YtmiidedablkfoaaProg
set_option linter.unusedSimpArgs false
set_option linter.unusedVariables false
namespace Go.Proofs.Ytmiidedablkfoaa
open Go Go.Sx Go.Proofs
set_option maxRecDepth 100000
def F0 : Cfg := ⟨400, []⟩
def F3 : Cfg := ⟨400, [0, 1, 2, 3, 4]⟩
def F4 : Cfg := ⟨400, [0, 1, 2, 3, 4, 5]⟩
def F5 : Cfg := ⟨400, [0, 1, 2, 3, 4, 5, 6, 7]⟩
def F6 : Cfg := ⟨400, [0, 1, 2, 3, 4]⟩
def F7 : Cfg := ⟨400, [0, 1, 2, 3]⟩
def F8 : Cfg := ⟨400, [0, 1, 2, 3, 4]⟩
def F9 : Cfg := ⟨400, [0, 1, 2]⟩
def F10 : Cfg := ⟨400, [0, 1, 2]⟩
def F11 : Cfg := ⟨400, [0, 1]⟩
def F12 : Cfg := ⟨400, [0, 1]⟩
def F13 : Cfg := ⟨400, [0, 1, 2, 3]⟩
def F14 : Cfg := ⟨400, [0, 1, 2, 3]⟩
def F15 : Cfg := ⟨400, [0, 1, 2]⟩
def F16 : Cfg := ⟨400, [0, 1, 2]⟩
def F17 : Cfg := ⟨400, [0, 1, 2, 3, 4, 5, 6, 7, 8, 9, 10]⟩
def F18 : Cfg := ⟨400, [0, 1, 2, 3, 4, 5, 6, 7, 8]⟩
def F19 : Cfg := ⟨400, [0, 1, 2, 3, 4, 5, 6, 7, 8]⟩
def F20 : Cfg := ⟨400, [0, 1, 2, 3, 4, 5, 6, 7]⟩
def F21 : Cfg := ⟨400, [0, 1, 2, 3, 4, 5, 6]⟩
def F22 : Cfg := ⟨400, [0, 1, 2, 3, 4]⟩
def F23 : Cfg := ⟨400, [0, 1, 2]⟩
def F24 : Cfg := ⟨400, [0, 1]⟩
def F25 : Cfg := ⟨400, [0, 1, 2]⟩
def F26 : Cfg := ⟨400, [0, 1]⟩
def F27 : Cfg := ⟨400, [0, 1]⟩
def F28 : Cfg := ⟨400, [0, 1]⟩
def F29 : Cfg := ⟨400, [0, 1, 2, 3, 4, 5, 6, 7, 8]⟩
def F30 : Cfg := ⟨400, [0, 1]⟩
def F31 : Cfg := ⟨400, [0, 1, 2]⟩
def F32 : Cfg := ⟨400, [0, 1]⟩
def F33 : Cfg := ⟨400, [0, 1, 2]⟩
def F34 : Cfg := ⟨400, [0, 1, 2, 3]⟩
def F35 : Cfg := ⟨400, [0, 1, 2, 3, 4, 5, 6, 7, 8, 9, 10, 11]⟩
def F36 : Cfg := ⟨400, [0, 1, 2, 3, 4]⟩
def F37 : Cfg := ⟨400, [0, 1, 2]⟩
def F39 : Cfg := ⟨400, [0, 1, 2, 3]⟩
def F40 : Cfg := ⟨400, [0, 1, 2, 3, 4, 5, 6, 7]⟩
def F41 : Cfg := ⟨400, [0, 1, 2]⟩
noncomputable def tab : List Ent := [
  ⟨3, true, F3, Try.f3⟩,
  ⟨4, true, F4, Try.f4⟩,
  ⟨5, true, F5, Try.f5⟩,
  ⟨6, true, F6, Try.f6⟩,
  ⟨7, true, F7, Try.f7⟩,
  ⟨8, true, F8, Try.f8⟩,
  ⟨9, true, F9, Try.f9⟩,
  ⟨10, true, F10, Try.f10⟩,
  ⟨11, true, F11, Try.f11⟩,
  ⟨12, true, F12, Try.f12⟩,
  ⟨13, true, F13, Try.f13⟩,
  ⟨14, true, F14, Try.f14⟩,
  ⟨15, true, F15, Try.f15⟩,
  ⟨16, true, F16, Try.f16⟩,
  ⟨17, true, F17, Try.f17⟩,
  ⟨18, true, F18, Try.f18⟩,
  ⟨19, true, F19, Try.f19⟩,
  ⟨20, true, F20, Try.f20⟩,
  ⟨21, true, F21, Try.f21⟩,
  ⟨22, true, F22, Try.f22⟩,
  ⟨23, true, F23, Try.f23⟩,
  ⟨24, true, F24, Try.f24⟩,
  ⟨25, true, F25, Try.f25⟩,
  ⟨26, true, F26, Try.f26⟩,
  ⟨27, true, F27, Try.f27⟩,
  ⟨28, true, F28, Try.f28⟩,
  ⟨29, true, F29, Try.f29⟩,
  ⟨30, true, F30, Try.f30⟩,
  ⟨31, true, F31, Try.f31⟩,
  ⟨32, true, F32, Try.f32⟩,
  ⟨33, true, F33, Try.f33⟩,
  ⟨34, true, F34, Try.f34⟩,
  ⟨35, true, F35, Try.f35⟩,
  ⟨36, true, F36, Try.f36⟩,
  ⟨37, true, F37, Try.f37⟩,
  ⟨39, true, F39, Try.f39⟩,
  ⟨40, true, F40, Try.f40⟩,
  ⟨41, true, F41, Try.f41⟩]
theorem tab_ok : TabOK Try.prog tab :=
  ⟨⟨Try.func3, by kernel_rfl⟩, ⟨Try.func4, by kernel_rfl⟩, ⟨Try.func5, by kernel_rfl⟩, ⟨Try.func6, by kernel_rfl⟩, ⟨Try.func7, by kernel_rfl⟩, ⟨Try.func8, by kernel_rfl⟩, ⟨Try.func9, by kernel_rfl⟩, ⟨Try.func10, by kernel_rfl⟩, ⟨Try.func11, by kernel_rfl⟩, ⟨Try.func12, by kernel_rfl⟩, ⟨Try.func13, by kernel_rfl⟩, ⟨Try.func14, by kernel_rfl⟩, ⟨Try.func15, by kernel_rfl⟩, ⟨Try.func16, by kernel_rfl⟩, ⟨Try.func17, by kernel_rfl⟩, ⟨Try.func18, by kernel_rfl⟩, ⟨Try.func19, by kernel_rfl⟩, ⟨Try.func20, by kernel_rfl⟩, ⟨Try.func21, by kernel_rfl⟩, ⟨Try.func22, by kernel_rfl⟩, ⟨Try.func23, by kernel_rfl⟩, ⟨Try.func24, by kernel_rfl⟩, ⟨Try.func25, by kernel_rfl⟩, ⟨Try.func26, by kernel_rfl⟩, ⟨Try.func27, by kernel_rfl⟩, ⟨Try.func28, by kernel_rfl⟩, ⟨Try.func29, by kernel_rfl⟩, ⟨Try.func30, by kernel_rfl⟩, ⟨Try.func31, by kernel_rfl⟩, ⟨Try.func32, by kernel_rfl⟩, ⟨Try.func33, by kernel_rfl⟩, ⟨Try.func34, by kernel_rfl⟩, ⟨Try.func35, by kernel_rfl⟩, ⟨Try.func36, by kernel_rfl⟩, ⟨Try.func37, by kernel_rfl⟩, ⟨Try.func39, by kernel_rfl⟩, ⟨Try.func40, by kernel_rfl⟩, ⟨Try.func41, by kernel_rfl⟩, trivial⟩
def W : Oracle → Oracle := fun C => pureE 38 add64S (C)
theorem W_snd : ∀ C, Snd Try.prog C → Snd Try.prog (W C) := fun C h => pureE_snd (add64_ok Try.func38 (by kernel_rfl) (by kernel_rfl) (by kernel_rfl) (by kernel_rfl)) (h)
noncomputable def O (n : Nat) : Oracle := orc Try.prog tab W n
theorem O_snd (n : Nat) : Snd Try.prog (O n) := orc_snd tab_ok W_snd n
end Go.Proofs.Ytmiidedablkfoaa
