/- basculelaw18.OracleNil answers true whatever the input, and its argument reads afterwards as it read before; the card ties the listed variables to the program's text. No condition of its own. -/
import Derived.Test.YtgjchnjddbplbaaGreatDoorSy
import Derived.Test.YtgjchnjddbplbaaGreatDoorRows
import Derived.Test.YtgjchnjddbplbaaGreatDoorTie
import Derived.Test.YtgjchnjddbplbaaGreatDoorCards
import Derived.ProofKit
import Derived.LaidMore
import Derived.OpenShut
import Derived.Stop.Joined
import Derived.SevenTiedAt
namespace Go.Proofs.YtgjchnjddbplbaaGreatDoor
open Go Go.Sx Go.ChangeShapes Go.WideShapes Go.ChangeAt Go.RowKit Go.WideElems

set_option maxRecDepth 100000

theorem onOwn : ownKnob Tryz.prog.godebug = none := by kernel_rfl
theorem onLaidOut : laidOutB Tryz.prog = true := by kernel_rfl
theorem onMixed : Tryz.prog.follows .mixedOrders = true := by kernel_rfl
theorem onNoNumB : (Tryz.prog.funcs.toList.all fun fn => !(fn.name == "runtime.NumGoroutine")) = true := by kernel_rfl
theorem onNoNum : NoNum Tryz.prog := fun f fn h => by
  have hm : fn ∈ Tryz.prog.funcs.toList := by
    rw [Array.mem_toList_iff]
    exact Array.mem_of_getElem? h
  simpa using List.all_eq_true.1 onNoNumB fn hm

/-- The types of the cells of an array or a struct. -/
noncomputable def onTs (t : Nat) : List TypeId := (Tryz.prog.cellTypes Tryz.prog.depth t).getD []
theorem onTs_of (t : Nat) (h : (Tryz.prog.cellTypes Tryz.prog.depth t).isSome = true) : Tryz.prog.cellTypes Tryz.prog.depth t = some (onTs t) := by
  unfold onTs
  cases e : Tryz.prog.cellTypes Tryz.prog.depth t with
  | none => rw [e] at h; cases h
  | some l => rfl

/-- The tests of what is light: both ways of each. -/
def onLight : Hints := fun f _ c =>
  cond (Nat.beq f 44) (cond (Nat.beq c 17 || Nat.beq c 26) (some .split) none)
  (cond (Nat.beq f 77) (cond (Nat.beq c 5 || Nat.beq c 10) (some .split) none)
  (cond (Nat.beq f 14) (cond (Nat.beq c 26 || Nat.beq c 36 || Nat.beq c 46) (some .split) none) none))

/-- Light as one truth value. -/
noncomputable def onTab (f : Nat) : Option CallF := cond (Nat.beq f 14) (some (mergeC (callF Tryz.prog onLight (fun _ => none) (drawn Tryz.prog) 300 30))) none

/-- Light or not: both. -/
def onHints : Hints := fun f _ c => cond (Nat.beq f 4 && Nat.beq c 5) (some .split) none

theorem onGood (h : Hints) : GoodCall Tryz.prog (callF Tryz.prog h onTab (drawn Tryz.prog) 300 30) :=
  callF_sound onNoNum (fun f g hg => by
    unfold onTab at hg
    cases e : Nat.beq f 14 with
    | false => rw [e] at hg; cases hg
    | true =>
      rw [e] at hg
      cases hg
      intro args rw ro base r hl W0 M β w avs
      exact mergeC_good (callF_sound onNoNum (fun _ _ hn => by cases hn) (fun _ gc => drawn_good onMixed gc) _) f args rw ro base r hl W0 M β w avs)
    (fun _ gc => drawn_good onMixed gc) _

noncomputable def onArgs (x : Vars) : List AV := [.agg (cellsA Tryz.prog x (onTs 68) 0)]

noncomputable def onRun (x : Vars) : T Res := callF Tryz.prog onHints onTab (drawn Tryz.prog) 300 30 4 (onArgs x) [] [] 1

def onTrue (r : Res) : Bool := match r.1 with
  | .val (.bool b) => b
  | _ => false

theorem onTrue_val {r : Res} (h : onTrue r = true) : r.1 = .val (.bool true) := by
  unfold onTrue at h
  split at h
  · rename_i b e
    rw [e, h]
  · cases h

theorem onEvery (x : Vars) : (onRun x).every onTrue = true := by kernel_rfl
theorem onAsms (x : Vars) : (onRun x).asms = [] := by kernel_rfl

/-- The law's call, of whatever input. -/
theorem onCalls {avs : Array Value} {x : Vars} (hargs : ∀ β, AVRs β (onArgs x) avs.toList) (w : World) :
    Calls Tryz.prog 4 avs w fun e w' => e = .returned (.bool true) ∧ Below w.heap.size w w' := by
  have hb : ∃ c, Tryz.f4.body = some c := Option.isSome_iff_exists.1 (by kernel_rfl)
  obtain ⟨c, hb⟩ := hb
  have hne : (Tryz.f4.name == "runtime.NumGoroutine") = false := onNoNum 4 _ Tryz.func4
  obtain ⟨⟨v, h⟩, hl, hv⟩ := T.leaf_of (onRun x) (by rw [onAsms]; rfl) (onEvery x)
  have hv := onTrue_val hv
  simp only at hv
  subst hv
  exact top_calls (onGood _) Tryz.func4 hb hne hl hargs w

def onLaid : List (String × DataW Unit) := Rows.oracleNilRow.laid

theorem onDoor (os : Os) (args : Array Value) : laidMetH Tryz.prog onLaid ((World.doorLaid Tryz.prog 400 os).forCall (fun _ _ => 0) ⟨#[], args, []⟩).memory :=
  laidMetH_of_parts3 (fuel := 8) (laidMet_of_run' 8 (by kernel_rfl) (by kernel_rfl)) (by kernel_rfl) (by kernel_rfl)

noncomputable def onZero (t : Nat) : Value := .agg ((onTs t).map fun u => match Tryz.prog.underlying u with
  | some (.int k) => .int k 0
  | some .bool => .bool false
  | some (.slice _) => .slice none 0 0
  | _ => undef).toArray

theorem onLifted (os : Os) (started : os.Started) (H : Type) (enc : TypeId × Value → H) :
    ReturnsInHanded {} Tryz.checked os 4 .any (fun w args => (Rows.oracleNilSpec.pre enc Tryz.prog Tryz.f4 [] false w args ∧ laidMetH Tryz.prog onLaid w) ∧ sizedMet enc Tryz.prog Tryz.f4 (OpenSpec.ofChange Rows.oracleNilSpec) false w args)
      (Rows.oracleNilSpec.post enc Tryz.prog Tryz.f4 false true false false) := by
  refine returnsInHanded_of_change_and (C := Tryz.checked) (X := fun w _ => laidMetH Tryz.prog onLaid w) (fun _ _ _ hh h => h.of_heap hh) onOwn started (by kernel_rfl) Tryz.func4
    (ChangeSpec.witness_shaped (enc := enc) (C := Tryz.checked) (os := os) (X := fun w _ => laidMetH Tryz.prog onLaid w) false (World.doorLaid Tryz.prog 400 os) #[onZero 68] 8 rfl (World.shaped_of_RefB (by kernel_rfl) (by kernel_rfl)) (by kernel_rfl) (by kernel_rfl) (by kernel_rfl) (onDoor os _)) ?_
  intro W base args ds gs before hval0 hW _ _ hL _
  have hval : ∀ (j : Nat) t v, Tryz.f4.params[j]? = some t → args[j]? = some v → Value.okWide Tryz.prog W .any base t v := hval0
  have hW' := hW
  obtain ⟨p, q, hA0, hV, rfl, hfz, hnd⟩ := hW
  have hA : DataW.TrodAll enc Tryz.prog W 0 (fun _ => true) true Tryz.f4.params.toList args.toList ds p := hA0
  rw [Tryz.params4] at hA hval
  obtain ⟨v0, d0, rfl, rfl, h0⟩ := trodAll_one hA
  obtain ⟨rfl, rfl⟩ := trodVars_none hV
  obtain ⟨cs, hcs, _, _, a0⟩ := okWide_cells (hval 0 68 v0 rfl rfl) (by kernel_rfl) (onTs_of 68 (by kernel_rfl)) (by kernel_rfl)
  refine (onCalls (x := Vars.of cs) (fun β => by
    simp only [onArgs, AVRs]
    exact ⟨a0 β, trivial⟩) W).mono fun e W' ⟨he, hw⟩ => ?_
  subst he
  have hlt := hW'.lt
  refine ⟨_, rfl, _, _, _, [], p, [], hW', trodAll_mk1 (shut_bool Tryz.underlying4 true), ?_, rfl, hw.frame _, fun h => by cases h⟩
  exact trodAll_mk1 (WideElems.Trod_stays onLaidOut (by kernel_rfl) (of_decide_eq_true (by kernel_rfl)) h0 (fun x hx => hw.same (hlt x (by simpa using hx))) (fun x hx => by simpa using hlt x (by simpa using hx)))

theorem onSaid : Rows.OracleNilSaid :=
  OpenClaim.holds_of_wide 4 Tryz.f4 rfl rfl rfl rfl rfl rfl rfl ⟨rfl, rfl, rfl, rfl, rfl⟩ rfl rfl rfl rfl rfl (by kernel_rfl) Tryz.func4 (by kernel_rfl)
    (of_decide_eq_true (by kernel_rfl)) (by unfold Func.isWrapper; first | (rw [if_pos (by decide +kernel)]; kernel_rfl) | (rw [if_neg (by decide +kernel)]; exact ⟨rfl, rfl⟩))
    (fun os started H enc _ => onLifted os started H enc)

theorem oracleNilCard_holds : Rows.OracleNilCardSaid :=
  Claim7.holds_tied_plain_at .later [] [.data, .data] true (true, "95851e52ebd0ef4a5b944fdeb0450148eccff08aa4e5c6cc76f1371064132368") false
    onSaid (fun _ h => by cases h) (by kernel_rfl) (fun _ h => by cases h) oracleNil_row_tie rfl ⟨rfl, rfl⟩ (by kernel_rfl) rfl
    (fun f fn hf hfn => by
      obtain rfl : f = 4 := Option.some.inj ((show Tryz.prog.funcNamed "bascule/basculelaw18.OracleNil" = some 4 by kernel_rfl).symm.trans hf) |>.symm
      obtain rfl : fn = Tryz.f4 := (Option.some.inj (Tryz.func4.symm.trans hfn)).symm
      exact ⟨by kernel_rfl, fun j t ht => by
        rw [Tryz.params4] at ht
        have hm : t ∈ [68] := by simpa using Array.mem_of_getElem? ht
        have hall : ([68].all fun u => !Tryz.prog.wantsStandIn u) = true := by kernel_rfl
        exact (show Tryz.prog.wantsStandIn t = false by simpa using List.all_eq_true.1 hall t hm)⟩)
    (by kernel_rfl)
#print axioms oracleNilCard_holds
end Go.Proofs.YtgjchnjddbplbaaGreatDoor
