/- Functions of the program, told by functions (printed by wip/g/mkdec.py). Conditions: none. -/
import Derived.Test.YthmdefgepnkgiaaGK
import Derived.Test.YthmdefgepnkgiaaD1
import Derived.Test.YthmdefgepnkgiaaD2
namespace Go.Proofs.Ythmdefgepnkgiaa.Eng
open Go
set_option maxRecDepth 100000
set_option linter.unusedVariables false
set_option linter.unusedSimpArgs false
abbrev when_numbers_R : Type := (List Int) × Bool
def when_numbers_enc (r : when_numbers_R) : Res := (.tup [(false, [.own 0 (DV.ints IntKind.i64 r.1)]), (false, [.d (DV.bool r.2)])], [])
def when_numbers_dec (r : Res) : Option when_numbers_R := match r with
  | (.tup [(false, [.own 0 (DV.ints IntKind.i64 x0)]), (false, [.d (DV.bool x1)])], []) => some (x0, x1)
  | _ => none
theorem when_numbers_dec_inv {r : Res} {x : when_numbers_R} (h : when_numbers_dec r = some x) : r = when_numbers_enc x := by
  unfold when_numbers_dec at h
  split at h
  · obtain rfl := Option.some.inj h; rfl
  · cases h
noncomputable def when_numbers_ck (D : List Int → Option when_numbers_R) : CK := fun avs bs => match avs, bs with
  | [.one false [.d (DV.ints IntKind.u8 a0)]], [] => CallK.via (D (a0)) when_numbers_enc
  | _, _ => CallK.of none
theorem when_numbers_ck_ok {D : List Int → Option when_numbers_R} (h : ∀ (a0 : List Int), ∀ r, D (a0) = some r → CallOK Go.Proofs.Try.prog 21 [.one false [.d (DV.ints IntKind.u8 a0)]] [] (when_numbers_enc r)) : CK.OK Go.Proofs.Try.prog 21 (when_numbers_ck D) := by
  intro avs bs r hr
  unfold when_numbers_ck at hr
  split at hr
  · obtain ⟨x, hx, rfl⟩ := via_some hr
    exact h _ x hx
  · exact (none_some hr).elim
end Go.Proofs.Ythmdefgepnkgiaa.Eng
