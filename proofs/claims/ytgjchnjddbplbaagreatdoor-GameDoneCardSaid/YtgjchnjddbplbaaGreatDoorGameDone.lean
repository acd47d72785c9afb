/- basculelaw17.GameDone answers true whatever the input, and each argument reads afterwards as it read before; the card ties the listed variables to the program's text. No condition of its own. -/
import Derived.Test.YtgjchnjddbplbaaGreatDoorSx
import Derived.Test.YtgjchnjddbplbaaGreatDoorRows
import Derived.Test.YtgjchnjddbplbaaGreatDoorTie
import Derived.Test.YtgjchnjddbplbaaGreatDoorCards
import Derived.ProofKit
import Derived.LaidMore
import Derived.OpenShut
import Derived.Stop.Joined
import Derived.SevenTiedAt
namespace Go.Proofs.YtgjchnjddbplbaaGreatDoor
open Go Go.Sx Go.ChangeShapes Go.WideShapes Go.ChangeAt Go.RowKit Go.WideElems

set_option maxRecDepth 100000

theorem gdOwn : ownKnob Tryz.prog.godebug = none := by kernel_rfl
theorem gdLaidOut : laidOutB Tryz.prog = true := by kernel_rfl
theorem gdMixed : Tryz.prog.follows .mixedOrders = true := by kernel_rfl
theorem gdNoNumB : (Tryz.prog.funcs.toList.all fun fn => !(fn.name == "runtime.NumGoroutine")) = true := by kernel_rfl
theorem gdNoNum : NoNum Tryz.prog := fun f fn h => by
  have hm : fn ∈ Tryz.prog.funcs.toList := by
    rw [Array.mem_toList_iff]
    exact Array.mem_of_getElem? h
  simpa using List.all_eq_true.1 gdNoNumB fn hm

/-- The types of the cells of an array or a struct. -/
noncomputable def gdTs (t : Nat) : List TypeId := (Tryz.prog.cellTypes Tryz.prog.depth t).getD []
theorem gdTs_of (t : Nat) (h : (Tryz.prog.cellTypes Tryz.prog.depth t).isSome = true) : Tryz.prog.cellTypes Tryz.prog.depth t = some (gdTs t) := by
  unfold gdTs
  cases e : Tryz.prog.cellTypes Tryz.prog.depth t with
  | none => rw [e] at h; cases h
  | some l => rfl

/-- The tests of claim.Right and claim.Last: both ways of each. -/
def gdLast : Hints := fun f _ c =>
  cond (Nat.beq f 64) (cond (Nat.beq c 4 || Nat.beq c 10 || Nat.beq c 15 || Nat.beq c 19 || Nat.beq c 25 || Nat.beq c 27) (some .split) none)
  (cond (Nat.beq f 37) (cond (Nat.beq c 10) (some .split) none) none)

/-- claim.Last as one truth value. -/
noncomputable def gdTab (f : Nat) : Option CallF := cond (Nat.beq f 37) (some (mergeC (callF Tryz.prog gdLast (fun _ => none) (drawn Tryz.prog) 300 30))) none

/-- What is expected: the winner, the moment, and that the moment is one. -/
def gdHints (w m : Int) : Hints := fun f _ c =>
  cond (Nat.beq f 3) (cond (Nat.beq c 12) (some (.int w)) (cond (Nat.beq c 6) (some (.int m)) none))
  (cond (Nat.beq f 74) (cond (Nat.beq c 2 || Nat.beq c 5) (some (.bool true)) none) none)

theorem gdGood (h : Hints) : GoodCall Tryz.prog (callF Tryz.prog h gdTab (drawn Tryz.prog) 300 30) :=
  callF_sound gdNoNum (fun f g hg => by
    unfold gdTab at hg
    cases e : Nat.beq f 37 with
    | false => rw [e] at hg; cases hg
    | true =>
      rw [e] at hg
      cases hg
      intro args rw ro base r hl W0 M β w avs
      exact mergeC_good (callF_sound gdNoNum (fun _ _ hn => by cases hn) (fun _ gc => drawn_good gdMixed gc) _) f args rw ro base r hl W0 M β w avs)
    (fun _ gc => drawn_good gdMixed gc) _

noncomputable def gdArgs (iv : Nat → Int) (bv : Nat → Bool) (now : Int) (im : Nat → Int) (bm : Nat → Bool) : List AV :=
  [.agg (cellsA Tryz.prog iv bv (gdTs 28) 0), .val (.int .i64 now), .agg (cellsA Tryz.prog im bm (gdTs 23) 0)]

noncomputable def gdRun (w m : Int) (iv : Nat → Int) (bv : Nat → Bool) (now : Int) (im : Nat → Int) (bm : Nat → Bool) : T Res :=
  callF Tryz.prog (gdHints w m) gdTab (drawn Tryz.prog) 300 30 3 (gdArgs iv bv now im bm) [] [] 1

def gdTrue (r : Res) : Bool := match r.1 with
  | .val (.bool b) => b
  | _ => false

theorem gdTrue_val {r : Res} (h : gdTrue r = true) : r.1 = .val (.bool true) := by
  unfold gdTrue at h
  split at h
  · rename_i b e
    rw [e, h]
  · cases h

theorem gdEvery0 (m : Int) (iv : Nat → Int) (bv : Nat → Bool) (now : Int) (im : Nat → Int) (bm : Nat → Bool) : (gdRun 0 m iv bv now im bm).every gdTrue = true := by kernel_rfl
theorem gdEvery1 (m : Int) (iv : Nat → Int) (bv : Nat → Bool) (now : Int) (im : Nat → Int) (bm : Nat → Bool) : (gdRun 1 m iv bv now im bm).every gdTrue = true := by kernel_rfl

def gdNow (now : Int) : Int := (Go.IntKind.wrap .i64 ((now.tmod 1000) + 1000)).tmod 1000
def gdWin (w : Int) : Int := (Go.IntKind.wrap .i64 ((w.tmod 2) + 2)).tmod 2
def gdAsms (w m now x : Int) : List Bool :=
  [gdNow now == m, gdWin x == w, decide (m ≥ 0) == true, decide (m ≤ 1099511627776) == true, decide (m ≥ 0) == true, decide (m ≤ 1099511627776) == true,
    decide (m ≥ 0) == true, decide (m ≤ 1099511627776) == true, decide (m ≥ 0) == true, decide (m ≤ 1099511627776) == true] ++ List.replicate 16 true

theorem gdAsms0 (m : Int) (iv : Nat → Int) (bv : Nat → Bool) (now : Int) (im : Nat → Int) (bm : Nat → Bool) : (gdRun 0 m iv bv now im bm).asms = gdAsms 0 m now (iv 102) := by kernel_rfl
theorem gdAsms1 (m : Int) (iv : Nat → Int) (bv : Nat → Bool) (now : Int) (im : Nat → Int) (bm : Nat → Bool) : (gdRun 1 m iv bv now im bm).asms = gdAsms 1 m now (iv 102) := by kernel_rfl

theorem gdWrap {n : Int} (h0 : 0 ≤ n) (h1 : n < 9223372036854775808) : Go.IntKind.wrap .i64 n = n := by
  have e : n % 18446744073709551616 = n := Int.emod_eq_of_lt h0 (by omega)
  simp [IntKind.wrap, IntKind.bits, IntKind.signed, e]
  omega

theorem gdNow_range (now : Int) : 0 ≤ gdNow now ∧ gdNow now ≤ 999 := by
  have h1 : now.tmod 1000 < 1000 := Int.tmod_lt_of_pos now (by decide)
  have h2 : -1000 < now.tmod 1000 := Int.lt_tmod_of_pos now (by decide)
  unfold gdNow
  rw [gdWrap (by omega) (by omega), Int.tmod_eq_emod_of_nonneg (by omega)]
  omega

theorem gdWin_range (w : Int) : gdWin w = 0 ∨ gdWin w = 1 := by
  have h1 : w.tmod 2 < 2 := Int.tmod_lt_of_pos w (by decide)
  have h2 : -2 < w.tmod 2 := Int.lt_tmod_of_pos w (by decide)
  unfold gdWin
  rw [gdWrap (by omega) (by omega), Int.tmod_eq_emod_of_nonneg (by omega)]
  omega

theorem gdMet {w now x : Int} (hw : gdWin x = w) : ((gdAsms w (gdNow now) now x).all fun b => b) = true := by
  obtain ⟨h0, h1⟩ := gdNow_range now
  have h2 : gdNow now ≤ 1099511627776 := by omega
  simp [gdAsms, hw, h0, h2]

/-- The law's call, of whatever input. -/
theorem gdCalls {avs : Array Value} {iv : Nat → Int} {bv : Nat → Bool} {now : Int} {im : Nat → Int} {bm : Nat → Bool} (hargs : ∀ β, AVRs β (gdArgs iv bv now im bm) avs.toList) (w : World) :
    Calls Tryz.prog 3 avs w fun e w' => e = .returned (.bool true) ∧ Below w.heap.size w w' := by
  have hb : ∃ c, Tryz.f3.body = some c := Option.isSome_iff_exists.1 (by kernel_rfl)
  obtain ⟨c, hb⟩ := hb
  have hne : (Tryz.f3.name == "runtime.NumGoroutine") = false := gdNoNum 3 _ Tryz.func3
  rcases gdWin_range (iv 102) with hw | hw
  · obtain ⟨⟨v, h⟩, hl, hv⟩ := T.leaf_of (gdRun 0 (gdNow now) iv bv now im bm) (by rw [gdAsms0]; exact gdMet hw) (gdEvery0 (gdNow now) iv bv now im bm)
    have hv := gdTrue_val hv
    simp only at hv
    subst hv
    exact top_calls (gdGood _) Tryz.func3 hb hne hl hargs w
  · obtain ⟨⟨v, h⟩, hl, hv⟩ := T.leaf_of (gdRun 1 (gdNow now) iv bv now im bm) (by rw [gdAsms1]; exact gdMet hw) (gdEvery1 (gdNow now) iv bv now im bm)
    have hv := gdTrue_val hv
    simp only at hv
    subst hv
    exact top_calls (gdGood _) Tryz.func3 hb hne hl hargs w

def gdLaid : List (String × DataW Unit) := Rows.gameDoneRow.laid

theorem gdDoor (os : Os) (args : Array Value) : laidMetH Tryz.prog gdLaid ((World.doorLaid Tryz.prog 400 os).forCall (fun _ _ => 0) ⟨#[], args, []⟩).memory :=
  laidMetH_of_parts3 (fuel := 8) (laidMet_of_run' 8 (by kernel_rfl) (by kernel_rfl)) (by kernel_rfl) (by kernel_rfl)

noncomputable def gdZero (t : Nat) : Value := .agg ((gdTs t).map fun u => match Tryz.prog.underlying u with
  | some (.int k) => .int k 0
  | some .bool => .bool false
  | _ => undef).toArray

theorem gdLifted (os : Os) (started : os.Started) (H : Type) (enc : TypeId × Value → H) :
    ReturnsInHanded {} Tryz.checked os 3 .any (fun w args => (Rows.gameDoneSpec.pre enc Tryz.prog Tryz.f3 [] false w args ∧ laidMetH Tryz.prog gdLaid w) ∧ sizedMet enc Tryz.prog Tryz.f3 (OpenSpec.ofChange Rows.gameDoneSpec) false w args)
      (Rows.gameDoneSpec.post enc Tryz.prog Tryz.f3 false true false false) := by
  refine returnsInHanded_of_change_and (C := Tryz.checked) (X := fun w _ => laidMetH Tryz.prog gdLaid w) (fun _ _ _ hh h => h.of_heap hh) gdOwn started (by kernel_rfl) Tryz.func3
    (ChangeSpec.witness_shaped (enc := enc) (C := Tryz.checked) (os := os) (X := fun w _ => laidMetH Tryz.prog gdLaid w) false (World.doorLaid Tryz.prog 400 os) #[gdZero 28, .int .i64 0, gdZero 23] 8 rfl (World.shaped_of_RefB (by kernel_rfl) (by kernel_rfl)) (by kernel_rfl) (by kernel_rfl) (by kernel_rfl) (gdDoor os _)) ?_
  intro W base args ds gs before hval0 hW _ _ hL _
  have hval : ∀ (j : Nat) t v, Tryz.f3.params[j]? = some t → args[j]? = some v → Value.okWide Tryz.prog W .any base t v := hval0
  have hW' := hW
  obtain ⟨p, q, hA0, hV, rfl, hfz, hnd⟩ := hW
  have hA : DataW.TrodAll enc Tryz.prog W 0 (fun _ => true) true Tryz.f3.params.toList args.toList ds p := hA0
  rw [Tryz.params3] at hA hval
  obtain ⟨v0, v1, v2, d0, d1, d2, p0, p1, p2, rfl, rfl, rfl, h0, h1, h2⟩ := trodAll_three hA
  obtain ⟨rfl, rfl⟩ := trodVars_none hV
  obtain ⟨iv, bv, a0⟩ := okWide_cells (hval 0 28 v0 rfl rfl) (by kernel_rfl) (gdTs_of 28 (by kernel_rfl)) (by kernel_rfl)
  obtain ⟨im, bm, a2⟩ := okWide_cells (hval 2 23 v2 rfl rfl) (by kernel_rfl) (gdTs_of 23 (by kernel_rfl)) (by kernel_rfl)
  obtain ⟨now, rfl, rfl, rfl, wn⟩ := open_int Tryz.underlying3 (hval 1 3 v1 rfl rfl) h1
  refine (gdCalls (iv := iv) (bv := bv) (now := now) (im := im) (bm := bm) (fun β => by
    simp only [gdArgs, AVRs]
    exact ⟨a0 β, by simp [AVR], a2 β, trivial⟩) W).mono fun e W' ⟨he, hw⟩ => ?_
  subst he
  have hlt := hW'.lt
  have stays : ∀ (t : TypeId) (v : Value) (d : DataW H) (ps : List MemPlace) (sp : Nat → Bool), Tryz.prog.readableRec t = true → t < Tryz.prog.types.size → DataW.Trod enc Tryz.prog W 0 (fun _ => true) true t v d ps →
      (∀ x ∈ ps, x ∈ (p0 ++ ([] ++ p2)) ++ []) → (∀ x ∈ (p0 ++ [] ++ p2) ++ [], sp x.block = true) → DataW.Trod enc Tryz.prog W' 0 sp true t v d ps := fun t v d ps sp hr hrow h hm hsp =>
    WideElems.Trod_stays gdLaidOut hr hrow h (fun x hx => hw.same (hlt x (by simpa using hm x hx))) (fun x hx => hsp x (by simpa using hm x hx))
  have hsp : ∀ x ∈ (p0 ++ [] ++ p2) ++ [], (fun b => decide (b < W.heap.size)) x.block = true := fun x hx => by simpa using hlt x hx
  refine ⟨_, rfl, _, _, _, [], p0 ++ ([] ++ p2), [], hW', trodAll_mk1 (shut_bool Tryz.underlying4 true), ?_, rfl, hw.frame _, fun h => by cases h⟩
  exact trodAll_mk3 (stays 28 v0 d0 p0 _ (by kernel_rfl) (of_decide_eq_true (by kernel_rfl)) h0 (fun x hx => by simp [hx]) hsp) (shut_int Tryz.underlying3 wn)
    (stays 23 v2 d2 p2 _ (by kernel_rfl) (of_decide_eq_true (by kernel_rfl)) h2 (fun x hx => by simp [hx]) hsp)

theorem gdSaid : Rows.GameDoneSaid :=
  OpenClaim.holds_of_wide 3 Tryz.f3 rfl rfl rfl rfl rfl rfl rfl ⟨rfl, rfl, rfl, rfl, rfl⟩ rfl rfl rfl rfl rfl (by kernel_rfl) Tryz.func3 (by kernel_rfl)
    (of_decide_eq_true (by kernel_rfl)) (by unfold Func.isWrapper; first | (rw [if_pos (by decide +kernel)]; kernel_rfl) | (rw [if_neg (by decide +kernel)]; exact ⟨rfl, rfl⟩))
    (fun os started H enc _ => gdLifted os started H enc)

theorem gameDoneCard_holds : Rows.GameDoneCardSaid :=
  Claim7.holds_tied_plain_at .later [] [.data, .data] true (true, "95851e52ebd0ef4a5b944fdeb0450148eccff08aa4e5c6cc76f1371064132368") false
    gdSaid (fun _ h => by cases h) (by kernel_rfl) (fun _ h => by cases h) gameDone_row_tie rfl ⟨rfl, rfl⟩ (by kernel_rfl) rfl
    (fun f fn hf hfn => by
      obtain rfl : f = 3 := Option.some.inj ((show Tryz.prog.funcNamed "bascule/basculelaw17.GameDone" = some 3 by kernel_rfl).symm.trans hf) |>.symm
      obtain rfl : fn = Tryz.f3 := (Option.some.inj (Tryz.func3.symm.trans hfn)).symm
      exact ⟨by kernel_rfl, fun j t ht => by
        rw [Tryz.params3] at ht
        have hm : t ∈ [28, 3, 23] := by simpa using Array.mem_of_getElem? ht
        have hall : ([28, 3, 23].all fun u => !Tryz.prog.wantsStandIn u) = true := by kernel_rfl
        exact (show Tryz.prog.wantsStandIn t = false by simpa using List.all_eq_true.1 hall t hm)⟩)
    (by kernel_rfl)
#print axioms gameDoneCard_holds
end Go.Proofs.YtgjchnjddbplbaaGreatDoor
