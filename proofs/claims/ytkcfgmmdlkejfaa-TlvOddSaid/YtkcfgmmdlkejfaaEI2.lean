/- The iterator that goes over a thing and all in it keeps its promise. Conditions: the thing has the kinds it should have. -/
import Derived.Test.YtkcfgmmdlkejfaaEI1
namespace Go.Proofs.Ytkcfgmmdlkejfaa.Eng
open Go
set_option maxRecDepth 100000
theorem all_fn : Go.Proofs.Try.prog.funcs[39]? = some Go.Proofs.Try.f39 := by kernel_rfl
theorem all_ok (row : List DV) (hok : okR row = true) : IterOK Go.Proofs.Try.prog 39 [row] (preL 1 [row]) := by
  refine ⟨⟨_, all_fn, rfl, rfl⟩, fun S w ps hS hps n l J Jx gJ gX y hJ => ?_⟩
  obtain ⟨k, t, k', b, ks, rfl, hbd, hks⟩ := okR_shape hok
  cases hps with
  | cons hp hnil =>
  cases hnil
  rename_i p
  obtain ⟨c, hc⟩ : ∃ c, Go.Proofs.Try.f39.body = some c := ⟨_, rfl⟩
  have Y : YP Go.Proofs.Try.prog l (preL 1 [[.int k t, .ints k' b, .sl 3 ks]]) J Jx := ⟨gJ, gX, y⟩
  refine callsIn_of_wp_marks (F := FW none) all_fn hc trivial ?_
  have hr := start_rel (n := 6) hS (avs := [.c (.yl l), .c (.ep [.int k t, .ints k' b, .sl 3 ks])]) (vals := [.func (.yield l) #[] #[], p]) (.cons ⟨_, rfl, rfl⟩ (.cons ⟨_, rfl, hp⟩ .nil)) (by simp)
  obtain rfl := Option.some.inj hc
  refine wpIn_region_list ?_
  refine steps_part (XY_ok _ 6) rfl (l := [_, _]) (rest := [_]) ?_ hr (by rfl) ?_
  · intro o ho
    simp only [List.mem_cons, List.not_mem_nil, or_false] at ho
    rcases ho with rfl | rfl <;> rfl
  intro a2 w2 g2 hr2
  obtain ⟨hr2, hg2, hx2⟩ := frz_ok hr2
  have hJ2 := gJ _ _ _ _ _ hJ hg2
  refine list_one (by rfl) ?_
  have h3 := ev_ok (X := XY Go.Proofs.Try.prog 6) hr2 (d := 0) (T := 0) (x := .tmp 3) (r := .one true [.d (.int k t), .d (.ints k' b), .d (.sl 3 ks)]) (by rfl)
  have h4 := evC_ok hr2 (x := .tmp 4) (c := .yl l) (by rfl)
  obtain ⟨l3, e3, a3⟩ := h3
  have hrx : RepX _ w2 (true, [.int k t, .ints k' b, .sl 3 ks]) (a2.eval (.tmp 3)) := ⟨l3, e3, All2.of_get (by have := a3.length; simpa using this) fun j x u hj hu => by
    obtain ⟨u', hu', hk⟩ := a3.get j (.d x) (by
      have : ([.int k t, .ints k' b, .sl 3 ks] : List DV).map CV.d = [.d (.int k t), .d (.ints k' b), .d (.sl 3 ks)] := rfl
      rw [← this, List.getElem?_map, hj]; rfl)
    rw [hu] at hu'
    obtain rfl := Option.some.inj hu'
    exact hk.1⟩
  have hcall := within_ok Y _ _ (Nat.lt_succ_self _) hok 1 0 (n - 1) _ _ _ hJ2 hg2.2.2 hrx (fun j x hj => by rw [Nat.zero_add]; exact hj)
  refine fcall_op (f := 40) (cv := []) (vals := [a2.eval (.tmp 3), .int .i64 1, a2.eval (.tmp 4)]) rfl rfl rfl (by simp [Act.eval]) ⟨_, within_fn, rfl, rfl⟩ (by rw [h4]; exact hcall) ?_
  have fin : ∀ (w' : World) (v : Value), ((∃ S', J (preL 1 [[.int k t, .ints k' b, .sl 3 ks]]).length S' w') ∨ ∃ i S', Jx i S' w') →
      bodyPostM (FW none) n Go.Proofs.Try.prog Go.Proofs.Try.f39 (fun e W' => (∃ v, e = .returned v) ∧ ((∃ S', J (preL 1 [[.int k t, .ints k' b, .sl 3 ks]]).length S' W') ∨ ∃ i S', Jx i S' W')) .normal (a2.put (some 5) v) w' := by
    intro w' v h
    show LeavesInM _ _ _ _ _ _ a2.defers .returning w'
    rw [hr2.df]
    refine ⟨.tuple #[], ?_, ⟨_, rfl⟩, h⟩
    unfold results
    simp [show Go.Proofs.Try.f39.results = #[] from rfl]
  rintro e5 w5 (⟨rfl, S5, hJ5, _, _⟩ | ⟨rfl, i5, S5, hJ5⟩)
  · refine ⟨_, rfl, fin _ _ (.inl ⟨S5, ?_⟩)⟩
    rw [Nat.zero_add] at hJ5
    exact hJ5
  · exact ⟨_, rfl, fin _ _ (.inr ⟨_, _, hJ5⟩)⟩
end Go.Proofs.Ytkcfgmmdlkejfaa.Eng
