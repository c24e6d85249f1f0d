import Derived.Test.YtfgiihaefabblaaS1
import Derived.Test.YtfgiihaefabblaaS3
namespace Go.Proofs.Ytfgiihaefabblaa.A
open Go.RowKit
/-! ### A block, told -/
def sgA (x : Int) : Int := Go.bits .xor .u32 (Go.bits .xor .u32 (tn x 2) (tn x 13)) (tn x 22)
def sgE (x : Int) : Int := Go.bits .xor .u32 (Go.bits .xor .u32 (tn x 6) (tn x 11)) (tn x 25)
def chF (e f g : Int) : Int := Go.bits .xor .u32 (Go.bits .and .u32 e f) (Go.bits .and .u32 (Go.bits .xor .u32 IntKind.u32.max e) g)
def mjF (a b c : Int) : Int := Go.bits .xor .u32 (Go.bits .xor .u32 (Go.bits .and .u32 a b) (Go.bits .and .u32 a c)) (Go.bits .and .u32 b c)
def su (v : List Int) (k w : Int) : Int := gw v 7 + sgE (gw v 4) + chF (gw v 4) (gw v 5) (gw v 6) + k + w
def rnd (v : List Int) (k w : Int) : List Int := [(su v k w + (sgA (gw v 0) + mjF (gw v 0) (gw v 1) (gw v 2))) % 4294967296, gw v 0, gw v 1, gw v 2, (gw v 3 + su v k w) % 4294967296, gw v 4, gw v 5, gw v 6]
def rs (h ws : List Int) : Nat → List Int
  | 0 => h
  | t + 1 => rnd (rs h ws t) (gw ks t) (gw ws t)
def fi (h v : List Int) : Nat → List Int
  | 0 => h
  | i + 1 => (fi h v i).set i (ad (gw (fi h v i) i) (gw v i))
def blockF (h b : List Int) : List Int := if b.length = 64 then fi h (rs h (sp b 64) 64) 8 else h
theorem rs_len (h ws : List Int) (hh : h.length = 8) : ∀ t, (rs h ws t).length = 8
  | 0 => hh
  | t + 1 => rfl
theorem fi_len (h v : List Int) (hh : h.length = 8) : ∀ t, (fi h v t).length = 8
  | 0 => hh
  | t + 1 => by rw [fi, List.length_set]; exact fi_len h v hh t
theorem block_len (h b : List Int) (hh : h.length = 8) : (blockF h b).length = 8 := by
  unfold blockF
  split
  · exact fi_len _ _ hh _
  · exact hh
end Go.Proofs.Ytfgiihaefabblaa.A
