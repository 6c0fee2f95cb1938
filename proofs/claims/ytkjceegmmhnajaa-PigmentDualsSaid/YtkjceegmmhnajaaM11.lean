/- The second machine is sound: what it answers, the model answers, whatever it draws. -/
import Derived.Test.YtkjceegmmhnajaaM10
namespace Go.Proofs.Ytkjceegmmhnajaa
open Go.RowKit

theorem stepX_sound {E : Env} {ex : Exe} (hE : EnvOk E) (hs : Sound E ex) : Sound E (stepX E ex) where
  mo := by
    intro lo ro c s s' e hc hlo hwf
    have seq : ∀ (b : Code) (x : Option (Ex × St)), (∀ e1 s1, x = some (e1, s1) → Mo lo s.H s1.H s.n s1.n ∧ s1.sz = s.sz) → seqX ex lo ro b x = some (e, s') → Mo lo s.H s'.H s.n s'.n ∧ s'.sz = s.sz := by
      intro b x hx hq
      unfold seqX at hq
      split at hq
      · rename_i s1
        obtain ⟨m1, z1⟩ := hx _ s1 rfl
        obtain ⟨m2, z2⟩ := hs.mo hq (Nat.le_trans hlo m1.le) (hwf.up m1)
        exact ⟨m1.trans m2, z2.trans z1⟩
      · exact hx _ _ hq
    cases c <;> simp only [stepX] at hc <;> try (cases hc; done)
    case skip => cases hc; exact ⟨.refl _ _ _, rfl⟩
    case label => cases hc; exact ⟨.refl _ _ _, rfl⟩
    case exit => cases hc; exact ⟨.refl _ _ _, rfl⟩
    case ret => cases hc; exact ⟨.refl _ _ _, rfl⟩
    case seq a b => exact seq b _ (fun e1 s1 h1 => hs.mo h1 hlo hwf) hc
    case loop c => exact seq _ _ (fun e1 s1 h1 => hs.mo h1 hlo hwf) hc
    case cond c a b =>
      unfold condX at hc
      split at hc
      · exact hs.mo hc hlo hwf
      · cases hc
    case block id c =>
      unfold blockX at hc
      split at hc
      · rename_i j s1 h1
        cases hc
        exact hs.mo h1 hlo hwf
      · exact hs.mo hc hlo hwf
    case region id ops draw => exact regX_mo hE hs hc hlo hwf
    case rangeFunc f ps assign body => exact (rangeF_ok hE hs hc hlo hwf).1
  ok := by
    intro lo ro c s s' e hc hck hlo hwf B w0 p h w a roc Q hsub hfr hr hsr hror hQ
    have seq : ∀ (b : Code) (x : Option (Ex × St)) (F : (Exit → Act → World → Prop) → Prop) (N : Act → World → Prop), ck b = true →
        (∀ a1 w1, wpX E.P roc b Q a1 w1 → N a1 w1) →
        (∀ e1 s1, x = some (e1, s1) → (Mo lo s.H s1.H s.n s1.n) ∧ ∀ Q' : Exit → Act → World → Prop, Fresh p s.n s1.n → (∀ a' w' q, Ext p q s.n s1.n → HR B w0 q (upH h s.H s1.H s.n s1.n) w' → SR q s1 a' → Q' e1.conc a' w') → F Q') →
        seqX ex lo ro b x = some (e, s') → F (Exit.then N Q) := by
      intro b x F N hb hN hx hq
      unfold seqX at hq
      split at hq
      · rename_i s1
        obtain ⟨m1, hF⟩ := hx _ s1 rfl
        obtain ⟨m2, z2⟩ := hs.mo hq (Nat.le_trans hlo m1.le) (hwf.up m1)
        refine hF _ (hfr.left m2.le) fun a1 w1 q hx1 hr1 hs1 => ?_
        show N a1 w1
        refine hN a1 w1 (hs.ok hq hb (Nat.le_trans hlo m1.le) (hwf.up m1) (Sub.up hsub m1) (hfr.right m1.le hx1) hr1 hs1 (hror.mono hx1.ext) fun a2 w2 q2 hx2 hr2 hs2 => ?_)
        rw [upH_trans m1 m2] at hr2
        exact hQ a2 w2 q2 (hx1.trans hx2 m1.le m2.le) hr2 hs2
      · rename_i hnn
        obtain ⟨m1, hF⟩ := hx e s' hq
        refine hF _ hfr fun a1 w1 q hx1 hr1 hs1 => ?_
        have hne : e ≠ .normal := fun he => by
          subst he
          exact hnn _ hq
        have := hQ a1 w1 q hx1 hr1 hs1
        cases e with
        | normal => exact absurd rfl hne
        | exit i => exact this
        | ret => exact this
    cases c <;> simp only [stepX] at hc <;> try (cases hc; done)
    case skip => cases hc; exact wpIn_skip (hQ a w p (.refl _ _) (by rw [upH_refl hsub]; exact hr) hsr)
    case label => cases hc; exact wpIn_label (hQ a w p (.refl _ _) (by rw [upH_refl hsub]; exact hr) hsr)
    case exit => cases hc; exact wpIn_exit (hQ a w p (.refl _ _) (by rw [upH_refl hsub]; exact hr) hsr)
    case ret => cases hc; exact wpIn_ret (hQ a w p (.refl _ _) (by rw [upH_refl hsub]; exact hr) hsr)
    case seq x y =>
      simp only [ck, Bool.and_eq_true] at hck
      refine wpIn_seq (seq y _ (fun Q' => x.wpIn (Fw roc) 0 E.P Q' a w) (y.wpIn (Fw roc) 0 E.P Q) hck.2 (fun a1 w1 h1 => wpX_wp h1) (fun e1 s1 h1 => ⟨(hs.mo h1 hlo hwf).1, fun Q' hf hq => wpX_wp (hs.ok h1 hck.1 hlo hwf hsub hf hr hsr hror hq)⟩) hc)
    case loop x =>
      simp only [ck] at hck
      refine loopOK_step (seq (.loop x) _ (fun Q' => x.wpIn (Fw roc) 0 E.P Q' a w) (LoopOK (Fw roc) E.P x Q) hck (fun a1 w1 h1 => h1) (fun e1 s1 h1 => ⟨(hs.mo h1 hlo hwf).1, fun Q' hf hq => wpX_wp (hs.ok h1 hck hlo hwf hsub hf hr hsr hror hq)⟩) hc)
    case cond x y z =>
      simp only [ck, Bool.and_eq_true] at hck
      unfold condX at hc
      split at hc
      · rename_i t hv
        have hvr := evA_ok hsr.t x hck.1.1
        rw [hv] at hvr
        refine wpIn_cond (t := t) hvr.bool_inv ?_
        cases t with
        | true => exact wpX_wp (hs.ok hc hck.1.2 hlo hwf hsub hfr hr hsr hror hQ)
        | false => exact wpX_wp (hs.ok hc hck.2 hlo hwf hsub hfr hr hsr hror hQ)
      · cases hc
    case block id x =>
      simp only [ck] at hck
      unfold blockX at hc
      split at hc
      · rename_i j s1 h1
        cases hc
        refine wpIn_block (wpX_wp (hs.ok h1 hck hlo hwf hsub hfr hr hsr hror fun a' w' q hx hr' hs' => ?_))
        have := hQ a' w' q hx hr' hs'
        show (if j = id then Q .normal a' w' else Q (.exit j) a' w')
        rw [Tr.bite] at this
        by_cases hj : j = id
        · rw [if_pos hj] at this ⊢; exact this
        · rw [if_neg hj] at this ⊢; exact this
      · rename_i hnn
        refine wpIn_block (wpX_wp (hs.ok hc hck hlo hwf hsub hfr hr hsr hror fun a' w' q hx hr' hs' => ?_))
        have := hQ a' w' q hx hr' hs'
        cases e with
        | normal => exact this
        | exit i => exact absurd hc (hnn i s')
        | ret => exact this
    case region id ops draw => exact (region_ok hE hs hc hlo hwf hck).2 hsub hfr hr hsr hQ
    case rangeFunc f ps assign body =>
      simp only [ck, Bool.and_eq_true] at hck
      exact (rangeF_ok hE hs hc hlo hwf).2 hck.1.1 hck.1.2 hck.2 hsub hfr hr hsr hror hQ

theorem exec_sound {E : Env} (hE : EnvOk E) : ∀ k, Sound E (exec E k)
  | 0 => ⟨fun h => (by cases h), fun h => (by cases h)⟩
  | k + 1 => stepX_sound hE (exec_sound hE k)
end Go.Proofs.Ytkjceegmmhnajaa
