/- JournalSpoilt holds: the function that states it returns true at every input that the row lets in. No condition. -/
import Derived.Test.YtbkdjfgkebkknaaGreatDoorRows
import Derived.Test.YtbkdjfgkebkknaaGreatDoorCards
import Derived.Test.YtbkdjfgkebkknaaGreatDoorTie
import Derived.Test.YtbkdjfgkebkknaaGreatDoorRowJournalSpoiltMg26
import Derived.Test.YtbkdjfgkebkknaaGreatDoorRowJournalSpoiltMg27
import Derived.WalkKit
import Derived.ProofKit
import Derived.OpenShut
import Derived.ShutString
import Derived.ChangeOld
import Derived.Below
import Derived.SevenTiedAt
namespace Go.Proofs.YtbkdjfgkebkknaaGreatDoor.journalSpoilt
open Go.ChangeShapes Go.WideShapes Go.ChangeAt Go.RowKit
open Go.ChangeMaps (open_string shut_string)
set_option linter.unusedVariables false
theorem own : ownKnob Tryz.prog.godebug = none := by kernel_rfl
theorem laidOut : laidOutB Tryz.prog = true := by kernel_rfl
set_option maxRecDepth 100000 in
theorem lifted (os : Os) (started : os.Started) (H : Type) (enc : TypeId × Value → H) :
    ReturnsInHanded {} Tryz.checked os 6 .any (fun w args => (Rows.journalSpoiltSpec.pre enc Tryz.prog Tryz.f6 [] false w args ∧ laidMetH Tryz.prog laidKinds w) ∧ sizedMet enc Tryz.prog Tryz.f6 (OpenSpec.ofChange Rows.journalSpoiltSpec) false w args) (Rows.journalSpoiltSpec.post enc Tryz.prog Tryz.f6 false true false false) := by
  refine returnsInHanded_of_change_and (C := Tryz.checked) (X := fun w _ => laidMetH Tryz.prog laidKinds w) (fun _ _ _ hh h => h.of_heap hh) own started (by kernel_rfl) Tryz.func6
    (ChangeSpec.witness_shaped (enc := enc) (C := Tryz.checked) (os := os) (X := fun w _ => laidMetH Tryz.prog laidKinds w) false (World.doorLaid Tryz.prog 400 os) #[.slice none 0 0, .int .u16 0, .int .u8 0] 8 rfl (World.shaped_of_RefB (by kernel_rfl) (by kernel_rfl)) (by kernel_rfl) (by kernel_rfl) (by kernel_rfl) (door_met os _)) ?_
  intro W base args ds gs before hval0 hW _ _ hL _
  have hT := tab_of hL
  have hval : ∀ (j : Nat) t v, Tryz.f6.params[j]? = some t → args[j]? = some v → Value.okWide Tryz.prog W .any base t v := hval0
  have hW' := hW
  obtain ⟨p, q, hA0, hV, rfl, hfz, hnd⟩ := hW
  have hA : DataW.TrodAll enc Tryz.prog W 0 (fun _ => true) true Tryz.f6.params.toList args.toList ds p := hA0
  rw [Tryz.params6] at hA hval
  obtain ⟨v0, vs0', d0, ds0, p0, q0, hargs, rfl, rfl, h0, r0⟩ := trodAll_cons hA
  obtain ⟨v1, vs1', d1, ds1, p1, q1, rfl, rfl, rfl, h1, r1⟩ := trodAll_cons r0
  obtain ⟨v2, vs2', d2, ds2, p2, q2, rfl, rfl, rfl, h2, r2⟩ := trodAll_cons r1
  obtain ⟨rfl, rfl, rfl⟩ := trodAll_nil r2
  obtain ⟨rfl, rfl⟩ := trodVars_none hV
  obtain rfl : args = #[v0, v1, v2] := by cases args; simp_all
  obtain ⟨a0, len0, cap0, rfl⟩ := okWide_slice Tryz.underlying22 (hval 0 22 v0 rfl rfl)
  have k0 := h0
  have lt0 : ∀ x ∈ p0, x.block < W.heap.size := by obtain ⟨m, hm⟩ := k0; exact DataW.trod_lt m _ _ _ hm
  obtain ⟨X0, hl0, hc0, hm0, hr0, hX0⟩ : ∃ X : List Tr, X.length = len0 ∧ len0 ≤ cap0 ∧ cap0 ≤ 9223372036854775807 ∧ CellsAt W a0 (trs X) ∧ ∀ t ∈ X, t.Ok W := by
    obtain ⟨fuel, hf⟩ := h0
    exact transes_in hf
  obtain ⟨a1, rfl, rfl, rfl, w1⟩ := open_int Tryz.underlying86 (hval 1 86 v1 rfl rfl) h1
  have w1' := w1
  obtain ⟨s1, rfl, hs1⟩ := wf_u16 w1
  obtain ⟨a2, rfl, rfl, rfl, w2⟩ := open_int Tryz.underlying5 (hval 2 5 v2 rfl rfl) h2
  have w2' := w2
  obtain ⟨s2, rfl⟩ := wf_byte w2
  clear hA0 hval0
  refine (lspoilt_c a0 len0 cap0 X0 s1 s2 W hT hs1 hl0 hc0 hm0 hr0 hX0).mono fun e W' h => ?_
  obtain ⟨he, bel⟩ := good h
  subst he
  exact ⟨_, rfl, _, _, _, [], _, [], hW', trodAll_mk1 (shut_bool Tryz.underlying4 _), (trodAll_cons_mk (Below.trod laidOut (by kernel_rfl) (of_decide_eq_true (by kernel_rfl)) k0 bel lt0) (trodAll_cons_mk (shut_int Tryz.underlying86 w1') (trodAll_cons_mk (shut_int Tryz.underlying5 w2') trodAll_mk0))), rfl, bel.frame _, fun h => by cases h⟩
theorem over : Rows.journalSpoiltRow.holds Tryz.pinned (OpenSpec.ofChange Rows.journalSpoiltSpec) :=
  OpenClaim.holds_of_wide 6 Tryz.f6 rfl rfl rfl rfl rfl rfl rfl ⟨rfl, rfl, rfl, rfl, rfl⟩ rfl rfl rfl rfl rfl (by kernel_rfl) Tryz.func6 (by kernel_rfl)
    (of_decide_eq_true (by kernel_rfl)) (by unfold Func.isWrapper; first | (rw [if_pos (by decide +kernel)]; kernel_rfl) | (rw [if_neg (by decide +kernel)]; exact ⟨rfl, rfl⟩))
    (fun os started H enc _ => lifted os started H enc)
theorem said : Rows.JournalSpoiltSaid := over
theorem proved : Rows.JournalSpoiltCardSaid :=
  Claim7.holds_tied_plain_at .later [] [.data] true (true, "b1e2871bff74709313caa75dcf736ebd0dd0c28005f406f3041caa67d8b880b7") true
    said (fun _ h => by cases h) (by kernel_rfl) (fun _ h => by cases h) journalSpoilt_row_tie rfl ⟨rfl, rfl⟩ (by kernel_rfl) rfl
    (fun f fn hf hfn => by
      obtain rfl : f = 6 := Option.some.inj ((show Tryz.prog.funcNamed "tempo/tempolaw35.JournalSpoilt" = some 6 by kernel_rfl).symm.trans hf) |>.symm
      obtain rfl : fn = Tryz.f6 := (Option.some.inj (Tryz.func6.symm.trans hfn)).symm
      exact ⟨by kernel_rfl, fun j t ht => by
        rw [Tryz.params6] at ht
        have hm : t ∈ [22, 86, 5] := by simpa using Array.mem_of_getElem? ht
        have hall : ([22, 86, 5].all fun u => !Tryz.prog.wantsStandIn u) = true := by kernel_rfl
        exact (show Tryz.prog.wantsStandIn t = false by simpa using List.all_eq_true.1 hall t hm)⟩)
    (by kernel_rfl)
#print axioms proved
end Go.Proofs.YtbkdjfgkebkknaaGreatDoor.journalSpoilt
