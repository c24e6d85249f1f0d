import Derived.Test.YtfgiihaefabblaaS1
namespace Go.Proofs.Ytfgiihaefabblaa.A
open Go.RowKit Go.Proofs.YtfgiihaefabblaaW.PrintWords Go.Proofs.YtfgiihaefabblaaW.PrintLast Go.Proofs.YtfgiihaefabblaaW.PrintMore
set_option linter.unusedVariables false
/-! ### The words of the rounds -/
def ks : List Int := [1116352408, 1899447441, 3049323471, 3921009573, 961987163, 1508970993, 2453635748, 2870763221, 3624381080, 310598401, 607225278, 1426881987, 1925078388, 2162078206, 2614888103, 3248222580, 3835390401, 4022224774, 264347078, 604807628, 770255983, 1249150122, 1555081692, 1996064986, 2554220882, 2821834349, 2952996808, 3210313671, 3336571891, 3584528711, 113926993, 338241895, 666307205, 773529912, 1294757372, 1396182291, 1695183700, 1986661051, 2177026350, 2456956037, 2730485921, 2820302411, 3259730800, 3345764771, 3516065817, 3600352804, 4094571909, 275423344, 430227734, 506948616, 659060556, 883997877, 958139571, 1322822218, 1537002063, 1747873779, 1955562222, 2024104815, 2227730452, 2361852424, 2428436474, 2756734187, 3204031479, 3329325298]
section
variable {P : Program} {ops : Array Oper} {rest : List Oper} {o : Oper} {a : Act} {Q : Exit → Act → World → Prop} {W : World}
theorem ar_build_step (N : Tmp) (hgd : o.guard = none) (hd : o.dst = some N) (ty : TypeId) (parts : Array (Nat × Operand)) (ho : o.op = .build ty parts) (l : List Int) (hb : P.built ty (parts.map fun (i, x) => (i, a.eval x)).toList = some (ar l))
    (h : wpList P ops Q rest (a.put (some N) (.agg (ar l))) W) : wpList P ops Q (o :: rest) a W := by
  have hrun : (execOp a.eval o).run P W = .ok (.value (.agg (ar l))) W := by
    unfold execOp
    simp only [ho]
    rw [Sem.run_bind, run_build W ty _ _ hb]
    rfl
  refine wpList_plain hgd fun K hK => ?_
  unfold Oper.wp
  rw [hrun]
  show K (a.put o.dst _) W
  rw [hd]
  exact hK _ _ h
end
set_option maxHeartbeats 2000000 in
set_option maxRecDepth 100000 in
theorem sha_words.calls (w : World) : Calls Try.prog 12 #[] w fun e w' => e = .returned (.agg (ar ks)) ∧ Below w.heap.size w w' := by
  go_enter Try.func12, Try.ntmps12
  go_wp2_with (first | ((with_reducible refine gate_dst (N := 1) rfl ?_); refine ar_build_step 1 rfl rfl 37 _ rfl ks (by kernel_rfl) ?_) | ((with_reducible refine gate_store (t := 37) (p := 0) rfl ?_); refine ar_store_step rfl rfl 37 _ _ rfl w.heap.size 37 64 (List.replicate 64 0) ks rfl rfl (AR.new w 37 (List.replicate 64 0) 64 rfl) rfl (by kernel_rfl) ?_; intro w1 hw1; have HW1 := Aside0.mk hw1; clear hw1))
  have HR : AR w1 w.heap.size 37 64 ks := by rw [HW1.out]; exact (AR.new w 37 (List.replicate 64 0) 64 rfl).put ks rfl
  have HB : Below w.heap.size w w1 := by rw [HW1.out]; exact below_put (below_alloc (Below.refl w.heap.size w) _) (Nat.le_refl _)
  exact bodyPost_ret (v := .agg (ar ks)) (ar_result rfl rfl HR 27 Try.underlying37 (by kernel_rfl)) rfl ⟨rfl, HB⟩
set_option maxHeartbeats 2000000 in
set_option maxRecDepth 100000 in
theorem apostilleref6_words.calls (w : World) : Calls Try.prog 16 #[] w fun e w' => e = .returned (.agg (ar ks)) ∧ Below w.heap.size w w' := by
  go_enter Try.func16, Try.ntmps16
  go_wp2_with (first | ((with_reducible refine gate_dst (N := 1) rfl ?_); refine ar_build_step 1 rfl rfl 37 _ rfl ks (by kernel_rfl) ?_) | ((with_reducible refine gate_store (t := 37) (p := 0) rfl ?_); refine ar_store_step rfl rfl 37 _ _ rfl w.heap.size 37 64 (List.replicate 64 0) ks rfl rfl (AR.new w 37 (List.replicate 64 0) 64 rfl) rfl (by kernel_rfl) ?_; intro w1 hw1; have HW1 := Aside0.mk hw1; clear hw1))
  have HR : AR w1 w.heap.size 37 64 ks := by rw [HW1.out]; exact (AR.new w 37 (List.replicate 64 0) 64 rfl).put ks rfl
  have HB : Below w.heap.size w w1 := by rw [HW1.out]; exact below_put (below_alloc (Below.refl w.heap.size w) _) (Nat.le_refl _)
  exact bodyPost_ret (v := .agg (ar ks)) (ar_result rfl rfl HR 27 Try.underlying37 (by kernel_rfl)) rfl ⟨rfl, HB⟩
end Go.Proofs.Ytfgiihaefabblaa.A
