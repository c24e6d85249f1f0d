import Derived.Test.YtfgiihaefabblaaSK
import Derived.Deep.RegionWith
import Derived.Deep.RegionHeld3
import Derived.Deep.DrawnRows
import Derived.Deep.QuietTactic
import Derived.BigQuiet
import Derived.Laws.IdiomStrings
namespace Go.Proofs.Ytfgiihaefabblaa.A
open Go.RowKit Go.Proofs.YtfgiihaefabblaaW.PrintWords Go.Proofs.YtfgiihaefabblaaW.PrintLast Go.Proofs.YtfgiihaefabblaaW.PrintMore
attribute [local go_sem] max2_int min2_int max_two min_two max_three min_three max_four min_four
attribute [local go_sem ↓] Go.wp_at_zero Go.wp_at_succ
set_option linter.unusedVariables false
set_option linter.unusedSimpArgs false
def txt0 : List UInt8 := []
def txt1 : List UInt8 := [97, 98, 99, 100, 98, 99, 100, 101, 99, 100, 101, 102, 100, 101, 102, 103, 101, 102, 103, 104, 102, 103, 104, 105, 103, 104, 105, 106, 104, 105, 106, 107, 105, 106, 107, 108, 106, 107, 108, 109, 107, 108, 109, 110, 108, 109, 110, 111, 109, 110, 111, 112, 110, 111, 112, 113]
set_option maxHeartbeats 4000000 in
set_option maxRecDepth 100000 in
theorem shaKnown_no (a : Int) (w : World) (h : a < 0 ∨ 2 ≤ a) : Calls Try.prog 6 #[.int .i64 a] w fun e w' => e = .returned (.bool true) ∧ Below w.heap.size w w' := by
  rcases h with h | h
  · have c1 : decide (a < 0) = true := decide_eq_true h
    go_enter Try.func6, Try.ntmps6
    go_wp2
    go_ret
    exact ⟨rfl, by repeat (first | exact Below.refl _ _ | apply below_alloc | apply below_drew1 | apply pw_below_drewN)⟩
  · have c1 : decide (a < 0) = false := decide_eq_false (by omega)
    have c2 : decide (2 ≤ a) = true := decide_eq_true h
    go_enter Try.func6, Try.ntmps6
    go_wp2
    go_ret
    exact ⟨rfl, by repeat (first | exact Below.refl _ _ | apply below_alloc | apply below_drew1 | apply pw_below_drewN)⟩
theorem C_cells {k : IntKind} {l : List Int} {W : World} {g t : Nat} {cells : Array Value} {fr : Nat × Nat} (hG : W.heap[g]? = some (.cells cells t fr)) (hm : l.length ≤ 9223372036854775807) (hc : ∀ (j : Nat) (p : Int), l[j]? = some p → cells[j]? = some (Value.int k p)) : Kd.C (Kd.int k) W (some ⟨g, 0, none⟩) l.length l := by
  refine ⟨rfl, hm, fun _ => ⟨_, rfl, fun j p hj => ⟨[.int k p], rfl, rfl, fun i u hi => ?_⟩⟩⟩
  cases i with
  | zero =>
    obtain rfl := Option.some.inj hi
    rw [add_off]
    unfold World.cell?
    rw [hG]
    have hs : (Kd.int k).sz = 1 := rfl
    rw [hs, Nat.mul_one]
    simp [hc j p hj]
  | succ i => exact absurd hi (by simp)
theorem cell_blk {w : World} {g : Nat} {cs : Array Value} {t : TypeId} {fr : Nat × Nat} (h : w.heap[g]? = some (.cells cs t fr)) (i : Nat) : w.cell? ⟨g, i, none⟩ = cs[i]? := by simp [World.cell?, h]
theorem heap4 (h : Array Obj) (a b c d : Obj) : ((((h.push a).push b).push c).push d)[h.size + 1]? = some b := by
  have e : h.size + 1 = (h.push a).size := (Array.size_push _).symm
  rw [Array.getElem?_push, if_neg (by simp), Array.getElem?_push, if_neg (by simp), e]
  exact Array.getElem?_push_size
theorem heap4_lt (h : Array Obj) (a b c d : Obj) : h.size + 1 < ((((h.push a).push b).push c).push d).size := by
  simp
def ofB (s : ByteArray) : List Int := s.data.toList.map fun b => (b.toNat : Int)
theorem ofB_len (s : ByteArray) : (ofB s).length = s.size := by unfold ofB; rw [List.length_map]; rfl
theorem C_bytes {W : World} {g t c : Nat} {s : ByteArray} {fr : Nat × Nat} (hG : W.heap[g]? = some (.cells (bytesRow s c) t fr)) (hm : s.size ≤ 9223372036854775807) : Kd.C (Kd.int .u8) W (some ⟨g, 0, none⟩) (ofB s).length (ofB s) := by
  refine C_cells hG (by rw [ofB_len]; exact hm) fun j p hj => ?_
  unfold ofB at hj
  rw [List.getElem?_map] at hj
  obtain ⟨b, hb, rfl⟩ := Option.map_eq_some_iff.1 hj
  have hlt : j < s.data.size := by
    have := (List.getElem?_eq_some_iff.1 hb).1
    simpa using this
  rw [bytesRow_at s c j hlt]
  have e : s.data[j] = b := by
    have := (List.getElem?_eq_some_iff.1 hb).2
    simpa using this
  rw [e]
def str0 : ByteArray := ⟨#[]⟩
def str1 : ByteArray := ⟨#[97, 98, 99, 100, 98, 99, 100, 101, 99, 100, 101, 102, 100, 101, 102, 103, 101, 102, 103, 104, 102, 103, 104, 105, 103, 104, 105, 106, 104, 105, 106, 107, 105, 106, 107, 108, 106, 107, 108, 109, 107, 108, 109, 110, 108, 109, 110, 111, 109, 110, 111, 112, 110, 111, 112, 113]⟩
set_option maxHeartbeats 4000000 in
set_option maxRecDepth 100000 in
theorem shaKnown_0 (k : Nat) (w : World) (r0 : List Int) (hd : sha_Of.f k [ofB str0] = some r0) (hs : strOfNums r0 = ⟨#[227, 176, 196, 66, 152, 252, 28, 20, 154, 251, 244, 200, 153, 111, 185, 36, 39, 174, 65, 228, 100, 155, 147, 76, 164, 149, 153, 27, 120, 82, 184, 85]⟩) (hk : apostillelaw6_known.f k = some true) : Calls Try.prog 6 #[.int .i64 0] w fun e w' => e = .returned (.bool true) ∧ Below w.heap.size w w' := by
  have HH := Aside0.mk hd
  have HS := Aside0.mk hs
  have HK := Aside0.mk hk
  clear hd hs hk
  have ROW1 := Aside0.mk (show ∀ (W W0 : World) (G g n c : Nat) (fr : Nat × Nat), W.heap = ((W0.alloc (.cells (bytesRow str0 c) 5 fr)).alloc (.cells #[.slice (some ⟨g, 0, none⟩) n c] 22)).heap → G = W0.heap.size + 1 → g = W0.heap.size → n = (ofB str0).length → (ofB str0).length ≤ c → Calls Try.prog 7 #[.slice (some ⟨G, 0, none⟩) 1 1] W fun e w' => ∃ v : Value, e = .returned v ∧ Kd.R (Kd.int .u8) 5 w' W.heap.size (fun _ => True) v r0 ∧ Below W.heap.size W w' from fun W W0 G g n c fr hW hG hg hn hc => by
    subst hG hg
    have h1 : W.heap[W0.heap.size + 1]? = some (.cells #[.slice (some ⟨W0.heap.size, 0, none⟩) n c] 22 (0, 0)) := by rw [hW, show W0.heap.size + 1 = (W0.alloc (.cells (bytesRow str0 c) 5 fr)).heap.size from (Array.size_push _).symm]; exact heap_alloc_last _ _
    have h2 : W.heap[W0.heap.size]? = some (.cells (bytesRow str0 c) 5 fr) := by rw [hW]; show ((W0.heap.push _).push _)[W0.heap.size]? = _; simp [Array.getElem?_push]
    exact sha_Of.calls k (some ⟨W0.heap.size + 1, 0, none⟩) 1 [ofB str0] r0 W (row_C h1 (C_bytes h2 (by decide)) hn hc) (Nat.le_refl _) HH.out)
  have HCV := fun (w : World) (s : ByteArray) => run_bytes_of_string (P := Try.prog) w 9 22 5 s Try.underlying9 Try.underlying22 Try.underlying5
  go_enter Try.func6, Try.ntmps6
  go_wp2
  go_region_with (first
    | (go_at_call 7; (with_reducible refine (ROW1.out _ ?q0 _ ?q1 ?q2 ?q3 ?q4 ?p0 ?p1 ?p2 ?p3 ?p4).mono ?_); (case p0 => rfl); (case p1 => show _ = ((w.heap.push _).push _).size + 1; simp); (case p2 => show _ = ((w.heap.push _).push _).size; simp); (case p3 => rfl); (case p4 => exact Nat.le_trans (Nat.le_of_eq (ofB_len _)) (grownCap_ge _ _ _ _)); rintro e w1_ ⟨v1_, rfl, ho_, hb_⟩; have HO := Aside0.mk ho_; have hcv := own_string (P := Try.prog) (src := 22) (dst := 9) (e := 5) Try.underlying22 Try.underlying5 Try.underlying9 (Kd.own_of_R HO.out); rw [HS.out] at hcv; have cw := (hb_.cell (p := ⟨w.heap.size + 1, 0, none⟩) (heap4_lt w.heap _ _ _ _)).trans (cell_blk (heap4 w.heap _ _ _ _) 0); have HB : Aside0 (Below w.heap.size w w1_) := ⟨below_step (by repeat (first | (with_reducible first | exact Below.refl _ _ | apply below_alloc | apply pw_below_drewN | apply below_drew1) | exact Below.refl _ _)) hb_⟩; clear ho_ hb_)
    | (go_at_call 9; (with_reducible refine (apostillelaw6_known.calls k true _ HK.out).mono ?_); rintro e w3_ ⟨rfl, hb_⟩; have n_ := Aside0.mk (below_step (by repeat (first | (with_reducible first | exact HB.out | apply below_alloc | apply pw_below_drewN | apply below_drew1) | exact HB.out)) hb_); clear HB; have HB := n_; clear n_ hb_))
  all_goals (go_wp2; go_ret; exact ⟨rfl, (by repeat (first | (with_reducible first | exact HB.out | apply below_alloc | apply pw_below_drewN | apply below_drew1) | exact HB.out))⟩)

set_option maxHeartbeats 4000000 in
set_option maxRecDepth 100000 in
theorem shaKnown_1 (k : Nat) (w : World) (r0 : List Int) (hd : sha_Of.f k [ofB str1] = some r0) (hs : strOfNums r0 = ⟨#[36, 141, 106, 97, 210, 6, 56, 184, 229, 192, 38, 147, 12, 62, 96, 57, 163, 60, 228, 89, 100, 255, 33, 103, 246, 236, 237, 212, 25, 219, 6, 193]⟩) (hk : apostillelaw6_known.f k = some true) : Calls Try.prog 6 #[.int .i64 1] w fun e w' => e = .returned (.bool true) ∧ Below w.heap.size w w' := by
  have HH := Aside0.mk hd
  have HS := Aside0.mk hs
  have HK := Aside0.mk hk
  clear hd hs hk
  have ROW1 := Aside0.mk (show ∀ (W W0 : World) (G g n c : Nat) (fr : Nat × Nat), W.heap = ((W0.alloc (.cells (bytesRow str1 c) 5 fr)).alloc (.cells #[.slice (some ⟨g, 0, none⟩) n c] 22)).heap → G = W0.heap.size + 1 → g = W0.heap.size → n = (ofB str1).length → (ofB str1).length ≤ c → Calls Try.prog 7 #[.slice (some ⟨G, 0, none⟩) 1 1] W fun e w' => ∃ v : Value, e = .returned v ∧ Kd.R (Kd.int .u8) 5 w' W.heap.size (fun _ => True) v r0 ∧ Below W.heap.size W w' from fun W W0 G g n c fr hW hG hg hn hc => by
    subst hG hg
    have h1 : W.heap[W0.heap.size + 1]? = some (.cells #[.slice (some ⟨W0.heap.size, 0, none⟩) n c] 22 (0, 0)) := by rw [hW, show W0.heap.size + 1 = (W0.alloc (.cells (bytesRow str1 c) 5 fr)).heap.size from (Array.size_push _).symm]; exact heap_alloc_last _ _
    have h2 : W.heap[W0.heap.size]? = some (.cells (bytesRow str1 c) 5 fr) := by rw [hW]; show ((W0.heap.push _).push _)[W0.heap.size]? = _; simp [Array.getElem?_push]
    exact sha_Of.calls k (some ⟨W0.heap.size + 1, 0, none⟩) 1 [ofB str1] r0 W (row_C h1 (C_bytes h2 (by decide)) hn hc) (Nat.le_refl _) HH.out)
  have HCV := fun (w : World) (s : ByteArray) => run_bytes_of_string (P := Try.prog) w 9 22 5 s Try.underlying9 Try.underlying22 Try.underlying5
  go_enter Try.func6, Try.ntmps6
  go_wp2
  go_region_with (first
    | (go_at_call 7; (with_reducible refine (ROW1.out _ ?q0 _ ?q1 ?q2 ?q3 ?q4 ?p0 ?p1 ?p2 ?p3 ?p4).mono ?_); (case p0 => rfl); (case p1 => show _ = ((w.heap.push _).push _).size + 1; simp); (case p2 => show _ = ((w.heap.push _).push _).size; simp); (case p3 => rfl); (case p4 => exact Nat.le_trans (Nat.le_of_eq (ofB_len _)) (grownCap_ge _ _ _ _)); rintro e w1_ ⟨v1_, rfl, ho_, hb_⟩; have HO := Aside0.mk ho_; have hcv := own_string (P := Try.prog) (src := 22) (dst := 9) (e := 5) Try.underlying22 Try.underlying5 Try.underlying9 (Kd.own_of_R HO.out); rw [HS.out] at hcv; have cw := (hb_.cell (p := ⟨w.heap.size + 1, 1, none⟩) (heap4_lt w.heap _ _ _ _)).trans (cell_blk (heap4 w.heap _ _ _ _) 1); have HB : Aside0 (Below w.heap.size w w1_) := ⟨below_step (by repeat (first | (with_reducible first | exact Below.refl _ _ | apply below_alloc | apply pw_below_drewN | apply below_drew1) | exact Below.refl _ _)) hb_⟩; clear ho_ hb_)
    | (go_at_call 9; (with_reducible refine (apostillelaw6_known.calls k true _ HK.out).mono ?_); rintro e w3_ ⟨rfl, hb_⟩; have n_ := Aside0.mk (below_step (by repeat (first | (with_reducible first | exact HB.out | apply below_alloc | apply pw_below_drewN | apply below_drew1) | exact HB.out)) hb_); clear HB; have HB := n_; clear n_ hb_))
  all_goals (go_wp2; go_ret; exact ⟨rfl, (by repeat (first | (with_reducible first | exact HB.out | apply below_alloc | apply pw_below_drewN | apply below_drew1) | exact HB.out))⟩)

end Go.Proofs.Ytfgiihaefabblaa.A
