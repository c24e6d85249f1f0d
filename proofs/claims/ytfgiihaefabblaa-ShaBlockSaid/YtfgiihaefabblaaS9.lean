/- The digests of any bytes, told in plain Lean: of both texts, and those by the standard; conditions: fewer than a million bytes, each in its range. -/
import Derived.Test.YtfgiihaefabblaaS6
import Derived.Test.YtfgiihaefabblaaS7
namespace Go.Proofs.Ytfgiihaefabblaa.A
open Go.RowKit Go.Proofs.YtfgiihaefabblaaW.PrintWords Go.Proofs.YtfgiihaefabblaaW.PrintLast Go.Proofs.YtfgiihaefabblaaW.PrintMore
def be8 (n : Int) : List Int := [shr .u64 n 56 % 256, shr .u64 n 48 % 256, shr .u64 n 40 % 256, shr .u64 n 32 % 256, shr .u64 n 24 % 256, shr .u64 n 16 % 256, shr .u64 n 8 % 256, shr .u64 n 0 % 256]
def nbits (m : Nat) : Int := IntKind.u64.wrap ((IntKind.u64.wrap ((m : Nat) : Int)) * 8)
def zeros (m : Nat) : Nat := (120 - m % 64) % 64
def padF (b : List Int) : List Int := b ++ [128] ++ List.replicate (zeros (b.length + 1)) 0 ++ be8 (nbits b.length)
theorem padF_len (b : List Int) : (padF b).length % 64 = 0 ∧ (padF b).length ≤ b.length + 100 := by
  have h8 : (be8 (nbits b.length)).length = 8 := rfl
  unfold padF
  simp only [List.length_append, List.length_replicate, h8, List.length_singleton]
  unfold zeros
  omega
theorem step8 (i : Int) (h : -100 ≤ i) (h1 : i ≤ 100) : wrap64 (i - 1) = i - 1 ∧ wrap64 (i - 8) = i - 8 ∧ wrap64 (8 * i) = 8 * i := by
  unfold wrap64
  refine ⟨?_, ?_, ?_⟩ <;> omega
theorem be_sha (x : List Int) (n : Int) (h : x.length < 2000000) : Ev (fun k => sha_pad.l2 k x n 7) (x ++ be8 n) := by
  have one : ∀ (y : List Int) (i : Int) (r : List Int), 0 ≤ i → i ≤ 7 → y.length < 3000000 → Ev (fun k => sha_pad.l2 k (y ++ [shr .u64 n (8 * i) % 256]) n (i - 1)) r → Ev (fun k => sha_pad.l2 k y n i) r := by
    intro y i r h0 h1 hy hr
    obtain ⟨w1, _, w8⟩ := step8 i (by omega) (by omega)
    refine Ev.step (fun k => ?_) hr
    simp only [sha_pad.l2]
    rw [if_pos (by omega), w8, if_pos (by omega), if_pos (by omega), w1]
  refine one _ 7 _ (by decide) (by decide) (by (try simp); omega) ?_
  refine one _ 6 _ (by decide) (by decide) (by (try simp); omega) ?_
  refine one _ 5 _ (by decide) (by decide) (by (try simp); omega) ?_
  refine one _ 4 _ (by decide) (by decide) (by (try simp); omega) ?_
  refine one _ 3 _ (by decide) (by decide) (by (try simp); omega) ?_
  refine one _ 2 _ (by decide) (by decide) (by (try simp); omega) ?_
  refine one _ 1 _ (by decide) (by decide) (by (try simp); omega) ?_
  refine one _ 0 _ (by decide) (by decide) (by (try simp); omega) ?_
  refine Ev.step (f := fun _ => some (x ++ be8 n)) (fun k => ?_) (Ev.now _)
  simp only [sha_pad.l2]
  rw [if_neg (by decide)]
  simp only [be8, List.append_assoc, List.cons_append, List.nil_append]
  rfl
theorem be_ref (x : List Int) (n : Int) (h : x.length < 2000000) : Ev (fun k => apostilleref6_pad.l1 k x n 56) (x ++ be8 n) := by
  have u64 : ∀ i : Int, 0 ≤ i → i ≤ 100 → IntKind.u64.wrap i = i := fun i h0 h1 => by simp [IntKind.wrap, IntKind.bits, IntKind.signed]; omega
  have one : ∀ (y : List Int) (i : Int) (r : List Int), 0 ≤ i → i ≤ 56 → y.length < 3000000 → Ev (fun k => apostilleref6_pad.l1 k (y ++ [shr .u64 n i % 256]) n (i - 8)) r → Ev (fun k => apostilleref6_pad.l1 k y n i) r := by
    intro y i r h0 h1 hy hr
    obtain ⟨_, w1, _⟩ := step8 i (by omega) (by omega)
    refine Ev.step (fun k => ?_) hr
    simp only [apostilleref6_pad.l1]
    rw [if_pos (by omega), u64 i h0 (by omega), if_pos (by omega), if_pos (by omega), w1]
  refine one _ 56 _ (by decide) (by decide) (by (try simp); omega) ?_
  refine one _ 48 _ (by decide) (by decide) (by (try simp); omega) ?_
  refine one _ 40 _ (by decide) (by decide) (by (try simp); omega) ?_
  refine one _ 32 _ (by decide) (by decide) (by (try simp); omega) ?_
  refine one _ 24 _ (by decide) (by decide) (by (try simp); omega) ?_
  refine one _ 16 _ (by decide) (by decide) (by (try simp); omega) ?_
  refine one _ 8 _ (by decide) (by decide) (by (try simp); omega) ?_
  refine one _ 0 _ (by decide) (by decide) (by (try simp); omega) ?_
  refine Ev.step (f := fun _ => some (x ++ be8 n)) (fun k => ?_) (Ev.now _)
  simp only [apostilleref6_pad.l1]
  rw [if_neg (by decide)]
  simp only [be8, List.append_assoc, List.cons_append, List.nil_append]
theorem rep_cons (d : Nat) (x : List Int) : x ++ [0] ++ List.replicate d 0 = x ++ List.replicate (d + 1) 0 := by
  rw [List.append_assoc, List.replicate_succ, List.singleton_append]
theorem fill_sha (n : Int) : ∀ (d : Nat) (x : List Int), zeros x.length = d → x.length + d < 2000000 → Ev (fun k => sha_pad.l1 k x n) (x ++ List.replicate d 0 ++ be8 n)
  | 0, x, hz, hl => by
    refine Ev.step (fun k => ?_) (be_sha (x ++ List.replicate 0 0) n (by simp; omega))
    have : ((x.length : Int) % 64) = 56 := by unfold zeros at hz; omega
    simp only [sha_pad.l1]
    rw [if_pos this, List.replicate_zero, List.append_nil]
  | d + 1, x, hz, hl => by
    have h1 := fill_sha n d (x ++ [0]) (by simp only [List.length_append, List.length_singleton]; unfold zeros at hz ⊢; omega) (by simp; omega)
    rw [rep_cons] at h1
    refine Ev.step (fun k => ?_) h1
    have : ¬ ((x.length : Int) % 64) = 56 := by unfold zeros at hz; omega
    simp only [sha_pad.l1]
    rw [if_neg this, if_pos (by omega)]
theorem fill_ref (b : List Int) : ∀ (d : Nat) (x : List Int), zeros x.length = d → x.length + d < 2000000 → Ev (fun k => apostilleref6_pad.l0 k b x) (x ++ List.replicate d 0 ++ be8 (nbits b.length))
  | 0, x, hz, hl => by
    refine Ev.step (fun k => ?_) (be_ref (x ++ List.replicate 0 0) (nbits b.length) (by simp; omega))
    have : ((x.length : Int) % 64) = 56 := by unfold zeros at hz; omega
    simp only [apostilleref6_pad.l0]
    rw [if_pos this, List.replicate_zero, List.append_nil]
    rfl
  | d + 1, x, hz, hl => by
    have h1 := fill_ref b d (x ++ [0]) (by simp only [List.length_append, List.length_singleton]; unfold zeros at hz ⊢; omega) (by simp; omega)
    rw [rep_cons] at h1
    refine Ev.step (fun k => ?_) h1
    have : ¬ ((x.length : Int) % 64) = 56 := by unfold zeros at hz; omega
    simp only [apostilleref6_pad.l0]
    rw [if_neg this, if_pos (by omega)]
theorem pad_ref (b : List Int) (h : b.length < 1000000) : Ev (fun k => apostilleref6_pad.f k b) (padF b) := by
  have hz : zeros (b ++ [128]).length < 64 := Nat.mod_lt _ (by decide)
  have h1 := fill_ref b (zeros (b ++ [128]).length) (b ++ [128]) rfl (by simp only [List.length_append, List.length_singleton]at *; omega)
  have e : (b ++ [128]).length = b.length + 1 := by simp
  rw [e] at h1
  refine Ev.congr (r := padF b) (fun k => ?_) h1
  simp only [apostilleref6_pad.f, Option.bind_some, List.nil_append, List.length_nil]
  rw [if_pos (by omega), if_pos (by omega)]
theorem rows_sha (L : List (List Int)) (h : L.flatten.length < 1000000) (hL : L.length < 1000000) : ∀ (d j : Nat) (acc : List Int), L.length - j = d → j ≤ L.length → acc = (L.take j).flatten → Ev (fun k => sha_pad.l0 k acc L (L.length : Int) (j : Int)) (padF L.flatten)
  | 0, j, acc, hd, hj, ha => by
    obtain rfl : j = L.length := by omega
    rw [List.take_length] at ha
    subst ha
    have hz : zeros (L.flatten ++ [128]).length < 64 := Nat.mod_lt _ (by decide)
    have h1 := fill_sha (nbits L.flatten.length) (zeros (L.flatten ++ [128]).length) (L.flatten ++ [128]) rfl (by simp only [List.length_append, List.length_singleton] at *; omega)
    have e : (L.flatten ++ [128]).length = L.flatten.length + 1 := by simp
    rw [e] at h1
    refine Ev.step (r := padF L.flatten) (fun k => ?_) h1
    simp only [sha_pad.l0]
    rw [if_neg (by omega), if_pos (by omega)]
    rfl
  | d + 1, j, acc, hd, hj, ha => by
    have hlt : j < L.length := by omega
    have hr : rd_L1 L (j : Int) = L[j] := by
      unfold rd_L1
      rw [Int.toNat_natCast, List.getD_eq_getElem?_getD, List.getElem?_eq_getElem hlt]
      rfl
    have hs : (L.take (j + 1)).flatten = acc ++ L[j] := by
      rw [List.take_succ_eq_append_getElem hlt, List.flatten_append, ha]
      simp
    have hb : (acc ++ L[j]).length ≤ L.flatten.length := by
      rw [← hs]
      have e := congrArg (fun z => (List.flatten z).length) (List.take_append_drop (j + 1) L)
      simp only [List.flatten_append, List.length_append] at e
      omega
    have h1 := rows_sha L h hL d (j + 1) (acc ++ L[j]) (by omega) (by omega) hs.symm
    refine Ev.step (fun k => ?_) h1
    simp only [sha_pad.l0]
    rw [List.length_append] at hb
    rw [if_pos (by omega), if_pos (by omega), if_pos (by omega), hr, if_pos (by omega)]
    have hw : wrap64 ((j : Int) + 1) = ((j + 1 : Nat) : Int) := by unfold wrap64; omega
    rw [hw]
theorem pad_sha (L : List (List Int)) (h : L.flatten.length < 1000000) (hL : L.length < 1000000) : Ev (fun k => sha_pad.f k L) (padF L.flatten) := rows_sha L h hL L.length 0 [] rfl (Nat.zero_le _) rfl
theorem digO_pad (b : List Int) (h : b.length < 1000000) : digO (padF b) = some (digF (padF b)) := by
  have hp := padF_len b
  unfold digO
  rw [if_pos hp.1, if_pos (by omega)]
theorem bytes_app {a b : List Int} (h : bytesB a = true) (h2 : bytesB b = true) : bytesB (a ++ b) = true := by
  unfold bytesB at *
  rw [List.all_append, h, h2]
  rfl
theorem bytes_mod (l : List Int) : bytesB (l.map fun x => x % 256) = true := by
  unfold bytesB
  rw [List.all_eq_true]
  intro x hx
  obtain ⟨y, _, rfl⟩ := List.mem_map.1 hx
  have h1 := Int.emod_nonneg y (show (256 : Int) ≠ 0 by decide)
  have h2 := Int.emod_lt_of_pos y (show (0 : Int) < 256 by decide)
  simp [h1, h2]
theorem bytes_pad {b : List Int} (h : bytesB b = true) : bytesB (padF b) = true := by
  refine bytes_app (bytes_app (bytes_app h (by decide)) ?_) (bytes_mod [shr .u64 (nbits b.length) 56, shr .u64 (nbits b.length) 48, shr .u64 (nbits b.length) 40, shr .u64 (nbits b.length) 32, shr .u64 (nbits b.length) 24, shr .u64 (nbits b.length) 16, shr .u64 (nbits b.length) 8, shr .u64 (nbits b.length) 0])
  unfold bytesB
  rw [List.all_eq_true]
  intro x hx
  obtain rfl := List.eq_of_mem_replicate hx
  decide
theorem of_sha (L : List (List Int)) (h : L.flatten.length < 1000000) (hL : L.length < 1000000) : Ev (fun k => sha_Of.f k L) (digF (padF L.flatten)) := by
  refine Ev.bind (f := fun _ x => digO x) (pad_sha L h hL) ?_
  rw [digO_pad _ h]
  exact Ev.now _
theorem of_ref (b : List Int) (h : b.length < 1000000) (hb : bytesB b = true) : Ev (fun k => apostilleref6_Of.f k b) (digF (padF b)) := by
  refine Ev.bind (f := fun _ x => digR x) (pad_ref b h) ?_
  unfold digR
  rw [if_pos (bytes_pad hb), digO_pad _ h]
  exact Ev.now _
set_option maxRecDepth 100000 in
theorem abc : strOfNums (digF (padF [97, 98, 99])) = ⟨#[186, 120, 22, 191, 143, 1, 207, 234, 65, 65, 64, 222, 93, 174, 34, 35, 176, 3, 97, 163, 150, 23, 122, 156, 180, 16, 255, 97, 242, 0, 21, 173]⟩ := by kernel_rfl
end Go.Proofs.Ytfgiihaefabblaa.A
