/- Chapter 32: the walks of does, Fail, Grant. -/
import Derived.Test.YteceghhjpejdnaaSessB
namespace Go.Proofs.Yteceghhjpejdnaa.SessC
open Go.RowKit Base Big Slices TrapA TrapB TrapG CodecA CodecB CodecC CodecK SessA SessB
set_option linter.unusedVariables false
set_option linter.unusedSimpArgs false

section
variable {F : FuncId} {first cap : Array Value} {w : World} {S : Nat → Prop} {Q : World → World → Prop}
theorem does_of {x c : Int} {ok : Bool} {g : Nat} {P : World → Prop} (h : Calls Try.prog 29 #[.func (.func F) first cap] w fun e w' => e = .returned (.tuple #[.agg #[.int .i64 x, .int .i64 c], .bool ok]) ∧ Fr S w w' ∧ P w') :
    Calls Try.prog 17 #[.pointer (some ⟨g, 0, none⟩), .func (.func F) first cap] w fun e w' => e = .returned (.int .i64 c) ∧ Fr S w w' ∧ ∃ w1, P w1 ∧ Fr Nil w1 w' := by
  have H := Lib.hid h
  clear h
  go_enter Try.func17, Try.ntmps17
  go_wp2_with fail
  refine H.out.mono ?_
  rintro e w1 ⟨rfl, hf, hp⟩
  have HF := Lib.hid hf
  have HP := Lib.hid hp
  clear hf hp
  go_wp2_with fail
  go_ret
  exact ⟨rfl, HF.out.alloc _, w1, HP.out, (Fr.refl Nil w1).alloc _⟩
theorem does_ret {g : Nat} {p p' : Int} {r r' : Rq} {t t' b b' : Int} (hB : Ss w g p r t b) (hF : Enters F) (h : ∀ W, Fr Nil w W → Calls Try.prog F (first ++ cap) W fun e w1 => e = .returned (.tuple #[]) ∧ Fr (fun k => k = g) W w1 ∧ Ss w1 g p' r' t' b') :
    Calls Try.prog 17 #[.pointer (some ⟨g, 0, none⟩), .func (.func F) first cap] w fun e w' => e = .returned (.int .i64 0) ∧ Fr (fun k => k = g) w w' ∧ Ss w' g p' r' t' b' := by
  have hg := hB.lt
  refine (does_of (g := g) (CatchG_ret (F := F) (first := first) (cap := cap) (w := w) (S := fun k => k = g) (Q := fun _ w1 => Ss w1 g p' r' t' b') (fun k hk => by omega) hF h)).mono ?_
  rintro e w' ⟨he, hf, w1, ⟨W, w2, h1, h2, h3, h4⟩, h5⟩
  exact ⟨he, hf, Bk.fr (Bk.fr h3 h4 (fun hh => by omega)) h5 id⟩
theorem does_fault {g : Nat} {x c : Int} (hF : Enters F) (h : ∀ W, Fr Nil w W → Calls Try.prog F (first ++ cap) W fun e w1 => e = .panicked [fault x c] ∧ Fr Nil W w1) :
    Calls Try.prog 17 #[.pointer (some ⟨g, 0, none⟩), .func (.func F) first cap] w fun e w' => e = .returned (.int .i64 c) ∧ Fr Nil w w' :=
  (does_of (g := g) (CatchG_fault (F := F) (first := first) (cap := cap) (w := w) (S := Nil) (Q := fun _ _ => True) (x := x) (c := c) (fun _ hk => hk.elim) hF (fun W hW => (h W hW).mono fun _ _ hh => ⟨hh.1, hh.2, trivial⟩))).mono fun _ _ hh => ⟨hh.1, hh.2.1⟩
theorem enters_fail : Enters 20 := fun args w => by simp [go_sem]
theorem enters_grant : Enters 35 := fun args w => by simp [go_sem]
end

section
variable (w : World)
theorem Fail_ok {g : Nat} {r : Rq} {t b : Int} (hB : Ss w g 1 r t b) (h0 : 0 ≤ t) (h1 : t ≤ 100000) : Calls Try.prog 11 #[.pointer (some ⟨g, 0, none⟩)] w fun e w' => e = .returned (.int .i64 0) ∧ Fr (fun k => k = g) w w' ∧ Ss w' g (fphase t b) r (t + 1) b := by
  have hmf : ∀ (fn : Fn) (first cap : Array Value) (w : World), (Instr.makeFunc fn first cap).run Try.prog w = .ok (.func fn first cap) w := fun _ _ _ _ => rfl
  have K := Lib.hid (does_ret (first := #[.pointer (some ⟨g, 0, none⟩)]) (cap := #[]) hB enters_fail (fun W hW => by rw [Array.append_empty]; exact fail_ok W (Bk.fr hB hW id) h0 h1))
  clear hB
  go_enter Try.func11, Try.ntmps11
  go_wp2_with fail
  refine K.out.mono ?_
  rintro e w1 ⟨rfl, hf, hs⟩
  have HF := Lib.hid hf
  have HS := Lib.hid hs
  clear hf hs
  go_wp2_with fail
  go_ret
  exact ⟨rfl, HF.out, HS.out⟩
theorem Fail_bad {g : Nat} {p : Int} {r : Rq} {t b : Int} (hB : Ss w g p r t b) (hp : p ≠ 1) : Calls Try.prog 11 #[.pointer (some ⟨g, 0, none⟩)] w fun e w' => e = .returned (.int .i64 10) ∧ Fr Nil w w' := by
  have hmf : ∀ (fn : Fn) (first cap : Array Value) (w : World), (Instr.makeFunc fn first cap).run Try.prog w = .ok (.func fn first cap) w := fun _ _ _ _ => rfl
  have K := Lib.hid (does_fault (g := g) (x := p) (c := 10) (first := #[.pointer (some ⟨g, 0, none⟩)]) (cap := #[]) enters_fail (fun W hW => by rw [Array.append_empty]; exact fail_bad W (Bk.fr hB hW id) hp))
  clear hB hp
  go_enter Try.func11, Try.ntmps11
  go_wp2_with fail
  refine K.out.mono ?_
  rintro e w1 ⟨rfl, hf⟩
  have HF := Lib.hid hf
  clear hf
  go_wp2_with fail
  go_ret
  exact ⟨rfl, HF.out⟩
theorem Grant_ok {g : Nat} {r : Rq} {t b : Int} (hB : Ss w g 2 r t b) : Calls Try.prog 22 #[.pointer (some ⟨g, 0, none⟩)] w fun e w' => e = .returned (.int .i64 0) ∧ Fr (fun k => k = g) w w' ∧ Ss w' g 3 r t b := by
  have hmf : ∀ (fn : Fn) (first cap : Array Value) (w : World), (Instr.makeFunc fn first cap).run Try.prog w = .ok (.func fn first cap) w := fun _ _ _ _ => rfl
  have K := Lib.hid (does_ret (first := #[.pointer (some ⟨g, 0, none⟩)]) (cap := #[]) hB enters_grant (fun W hW => by rw [Array.append_empty]; exact grant_ok W (Bk.fr hB hW id)))
  clear hB
  go_enter Try.func22, Try.ntmps22
  go_wp2_with fail
  refine K.out.mono ?_
  rintro e w1 ⟨rfl, hf, hs⟩
  have HF := Lib.hid hf
  have HS := Lib.hid hs
  clear hf hs
  go_wp2_with fail
  go_ret
  exact ⟨rfl, HF.out, HS.out⟩
theorem Grant_bad {g : Nat} {p : Int} {r : Rq} {t b : Int} (hB : Ss w g p r t b) (hp : p ≠ 2) : Calls Try.prog 22 #[.pointer (some ⟨g, 0, none⟩)] w fun e w' => e = .returned (.int .i64 10) ∧ Fr Nil w w' := by
  have hmf : ∀ (fn : Fn) (first cap : Array Value) (w : World), (Instr.makeFunc fn first cap).run Try.prog w = .ok (.func fn first cap) w := fun _ _ _ _ => rfl
  have K := Lib.hid (does_fault (g := g) (x := p) (c := 10) (first := #[.pointer (some ⟨g, 0, none⟩)]) (cap := #[]) enters_grant (fun W hW => by rw [Array.append_empty]; exact grant_bad W (Bk.fr hB hW id) hp))
  clear hB hp
  go_enter Try.func22, Try.ntmps22
  go_wp2_with fail
  refine K.out.mono ?_
  rintro e w1 ⟨rfl, hf⟩
  have HF := Lib.hid hf
  clear hf
  go_wp2_with fail
  go_ret
  exact ⟨rfl, HF.out⟩
end
end Go.Proofs.Yteceghhjpejdnaa.SessC
