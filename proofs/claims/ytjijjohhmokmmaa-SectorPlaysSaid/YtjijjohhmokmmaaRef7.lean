/- The document's bank: all made durable. -/
import Derived.Test.YtjijjohhmokmmaaRef6
namespace Go.Proofs.Ytjijjohhmokmmaa
set_option linter.unusedVariables false
set_option linter.unusedSimpArgs false
open Go Go.RowKit
set_option maxRecDepth 100000
set_option maxHeartbeats 8000000
attribute [local irreducible] WL WC WN Yl WH WQ WT WE WU WG WV
section
variable {p : RP} {os fs : List Sl} {Is : List Bool} {d : List (List UInt8)} {F : Nat → Option (List UInt8)} {S : List Nat}
theorem rsync_r (w : World) (wf : BkWf d F) (ok : RbOk os fs Is d F) (hO : ∀ y ∈ os ++ fs, OutF w S y) (hS : S = (rbI p os fs Is).filterMap HA.foot) (st : St w S (rbI p os fs Is) w) :
    Calls Try.prog 33 #[bptr p.br] w (GivesS S (RbV p os fs (crashR [128] d F).1.1 (crashR [128] d F).1.2 (crashR [128] d F).2) w) := by
  refine enterS (args := [.pointer (some ⟨p.br, 0, none⟩)]) Try.func33 Try.ntmps33 rfl rfl st ?_
  (repeat (first | (refine WL.k_move ?_; first | refine WL.step (Yl.move rfl) rfl ?_) | (refine WL.k_assign ?_; first | refine WL.step (Yl.assign rfl) rfl ?_) | refine WC.seq ?_ | refine WC.region ?_ | refine WL.nil ?_ | refine WN.then_normal ?_ | refine WC.skip ?_ | refine WC.ret ?_ | refine WN.then_ret ?_))
  refine WL.lit (t := 41) (vs := [.int .i64 128]) Try.underlying41 elemI rfl rfl rfl (fun u hu => by simp at hu; subst hu; rfl) rfl fun b1 => ?_
  rw [show flat [.int .i64 128] = zcells [128] from rfl]
  (repeat (first | (refine WL.k_move ?_; first | refine WL.step (Yl.move rfl) rfl ?_) | (refine WL.k_assign ?_; first | refine WL.step (Yl.assign rfl) rfl ?_) | refine WC.seq ?_ | refine WC.region ?_ | refine WL.nil ?_ | refine WN.then_normal ?_ | refine WC.skip ?_ | refine WC.ret ?_ | refine WN.then_ret ?_))
  refine WL.callS (g := 34) (A0 := rbI p os fs Is) (B := [.row (some ⟨b1, 0, none⟩) 1 3 1 (zcells [128])]) Try.call34 rfl (List.perm_append_comm (l₁ := [_])) (fun w0 st2 s1 => rcrash_r (some ⟨b1, 0, none⟩) 1 1 [128] w0 wf ok (fun y hy => ⟨(hO y hy).1, old_out st2 (List.perm_append_comm (l₁ := [_])) (hO y hy).2⟩) rfl (by decide) (row_out st2 (List.perm_append_comm (l₁ := [_])) (.head _)) s1) rfl fun v C hv => ?_
  obtain ⟨rfl, os', fs', Is', Z, rfl, hk, hin⟩ := hv
  (repeat (first | (refine WL.k_move ?_; first | refine WL.step (Yl.move rfl) rfl ?_) | (refine WL.k_assign ?_; first | refine WL.step (Yl.assign rfl) rfl ?_) | refine WC.seq ?_ | refine WC.region ?_ | refine WL.nil ?_ | refine WN.then_normal ?_ | refine WC.skip ?_ | refine WC.ret ?_ | refine WN.then_ret ?_))
  exact WN.ret1S rfl rfl ⟨rfl, os', fs', Is', Z, rfl, hk, hin⟩ (Part.pre _)
end
end Go.Proofs.Ytjijjohhmokmmaa
