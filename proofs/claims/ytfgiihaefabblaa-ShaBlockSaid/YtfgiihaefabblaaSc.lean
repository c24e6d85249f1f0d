import Derived.Test.YtfgiihaefabblaaSb
import Derived.Test.YtfgiihaefabblaaAx2
import Derived.Laws.BitsAllLaws
namespace Go.Proofs.Ytfgiihaefabblaa.A
open Go.RowKit Go.Proofs.YtfgiihaefabblaaW.PrintWords Go.Proofs.YtfgiihaefabblaaW.PrintLast Go.Proofs.YtfgiihaefabblaaW.PrintMore
theorem or_swap (a b : Int) : Go.bits .or .u32 a b = Go.bits .or .u32 b a := by
  simp only [Go.bits]
  rw [BitVec.or_comm]
theorem uf (x n : Int) (h1 : 0 ≤ n) (h2 : IntKind.u64.wrap (32 - n) = 32 - n) (h3 : 0 ≤ 32 - n) : apostilleref6_turned.f x n = some (tn x n) := by
  unfold apostilleref6_turned.f tn
  rw [if_pos h1, h2, if_pos h3, or_swap]
theorem un2 (x : Int) : apostilleref6_turned.f x 2 = some (tn x 2) := uf x 2 (by decide) (by decide +kernel) (by decide)
theorem un6 (x : Int) : apostilleref6_turned.f x 6 = some (tn x 6) := uf x 6 (by decide) (by decide +kernel) (by decide)
theorem un7 (x : Int) : apostilleref6_turned.f x 7 = some (tn x 7) := uf x 7 (by decide) (by decide +kernel) (by decide)
theorem un11 (x : Int) : apostilleref6_turned.f x 11 = some (tn x 11) := uf x 11 (by decide) (by decide +kernel) (by decide)
theorem un13 (x : Int) : apostilleref6_turned.f x 13 = some (tn x 13) := uf x 13 (by decide) (by decide +kernel) (by decide)
theorem un17 (x : Int) : apostilleref6_turned.f x 17 = some (tn x 17) := uf x 17 (by decide) (by decide +kernel) (by decide)
theorem un18 (x : Int) : apostilleref6_turned.f x 18 = some (tn x 18) := uf x 18 (by decide) (by decide +kernel) (by decide)
theorem un19 (x : Int) : apostilleref6_turned.f x 19 = some (tn x 19) := uf x 19 (by decide) (by decide +kernel) (by decide)
theorem un22 (x : Int) : apostilleref6_turned.f x 22 = some (tn x 22) := uf x 22 (by decide) (by decide +kernel) (by decide)
theorem un25 (x : Int) : apostilleref6_turned.f x 25 = some (tn x 25) := uf x 25 (by decide) (by decide +kernel) (by decide)

/-! ### four bytes as a word, at once -/
def w4 (a b c d : Int) : Int := Go.bits .or .u32 (Go.bits .or .u32 (Go.bits .or .u32 (a % 4294967296 * 16777216 % 4294967296) (b % 4294967296 * 65536 % 4294967296)) (c % 4294967296 * 256 % 4294967296)) (d % 4294967296)
theorem or_join (x y : Nat) (i : Nat) (m : Nat) (hx : x = 2 ^ i * m) (hx1 : x < 4294967296) (hy : y < 2 ^ i) (hy1 : y < 4294967296) : Go.bits .or .u32 (x : Int) (y : Int) = ((x + y : Nat) : Int) := by
  rw [u32_or_nat x y hx1 hy1, hx, Nat.two_pow_add_eq_or_of_lt hy]
theorem w4_eq (a b c d : Nat) (ha : a < 256) (hb : b < 256) (hc : c < 256) (hd : d < 256) : w4 a b c d = ((a * 16777216 + b * 65536 + c * 256 + d : Nat) : Int) := by
  unfold w4
  have e1 : (a : Int) % 4294967296 * 16777216 % 4294967296 = ((a * 16777216 : Nat) : Int) := by omega
  have e2 : (b : Int) % 4294967296 * 65536 % 4294967296 = ((b * 65536 : Nat) : Int) := by omega
  have e3 : (c : Int) % 4294967296 * 256 % 4294967296 = ((c * 256 : Nat) : Int) := by omega
  have e4 : (d : Int) % 4294967296 = (d : Int) := by omega
  rw [e1, e2, e3, e4, or_join (a * 16777216) (b * 65536) 24 a (by omega) (by omega) (by omega) (by omega)]
  rw [or_join (a * 16777216 + b * 65536) (c * 256) 16 (a * 256 + b) (by omega) (by omega) (by omega) (by omega)]
  rw [or_join (a * 16777216 + b * 65536 + c * 256) d 8 (a * 65536 + b * 256 + c) (by omega) (by omega) (by omega) (by omega)]
theorem bw_eq (a c : Nat) (ha : a < 16777216) (hc : c < 256) : bw a c = ((a * 256 + c : Nat) : Int) := by
  unfold bw
  have e1 : (a : Int) * 256 % 4294967296 = ((a * 256 : Nat) : Int) := by omega
  have e4 : (c : Int) % 4294967296 = (c : Int) := by omega
  rw [e1, e4, or_join (a * 256) c 8 a (by omega) (by omega) (by omega) (by omega)]
theorem w4_pw (b : List Int) (hb : ∀ i, 0 ≤ rd b i ∧ rd b i < 256) (t : Nat) (L0 L1 L2 L3 : Int) (h0 : L0 = 4 * t) (h1 : L1 = L0 + 1) (h2 : L2 = L0 + 2) (h3 : L3 = L0 + 3) : w4 (rd b L0) (rd b L1) (rd b L2) (rd b L3) = pw b t 4 := by
  have f0 : L0 = ((4 * t + 0 : Nat) : Int) := by omega
  have f1 : L1 = ((4 * t + 1 : Nat) : Int) := by omega
  have f2 : L2 = ((4 * t + 2 : Nat) : Int) := by omega
  have f3 : L3 = ((4 * t + 3 : Nat) : Int) := by omega
  rw [f0, f1, f2, f3]
  have b0 := hb ((4 * t + 0 : Nat) : Int)
  have b1 := hb ((4 * t + 1 : Nat) : Int)
  have b2 := hb ((4 * t + 2 : Nat) : Int)
  have b3 := hb ((4 * t + 3 : Nat) : Int)
  simp only [pw]
  generalize rd b ((4 * t + 0 : Nat) : Int) = x0 at *
  generalize rd b ((4 * t + 1 : Nat) : Int) = x1 at *
  generalize rd b ((4 * t + 2 : Nat) : Int) = x2 at *
  generalize rd b ((4 * t + 3 : Nat) : Int) = x3 at *
  obtain ⟨n0, rfl⟩ := Int.eq_ofNat_of_zero_le b0.1
  obtain ⟨n1, rfl⟩ := Int.eq_ofNat_of_zero_le b1.1
  obtain ⟨n2, rfl⟩ := Int.eq_ofNat_of_zero_le b2.1
  obtain ⟨n3, rfl⟩ := Int.eq_ofNat_of_zero_le b3.1
  clear f0 f1 f2 f3 h0 h1 h2 h3
  rw [w4_eq n0 n1 n2 n3 (by omega) (by omega) (by omega) (by omega)]
  have z : (0 : Int) = ((0 : Nat) : Int) := rfl
  rw [z, bw_eq 0 n0 (by omega) (by omega), bw_eq _ n1 (by omega) (by omega), bw_eq _ n2 (by omega) (by omega), bw_eq _ n3 (by omega) (by omega)]
  have e : n0 * 16777216 + n1 * 65536 + n2 * 256 + n3 = (((0 * 256 + n0) * 256 + n1) * 256 + n2) * 256 + n3 := by omega
  rw [e]
end Go.Proofs.Ytfgiihaefabblaa.A
