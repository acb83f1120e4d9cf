/-
  The model's Step, all kinds.
-/
import Derived.Test.Qxb6500848aGreatDoorMs0
import Derived.Test.Qxb6500848aGreatDoorMs1
import Derived.Test.Qxb6500848aGreatDoorMs3
import Derived.Test.Qxb6500848aGreatDoorMs4
import Derived.Test.Qxb6500848aGreatDoorMs5
import Derived.Test.Qxb6500848aGreatDoorMs6
import Derived.Test.Qxb6500848aGreatDoorMs7
import Derived.Test.Qxb6500848aGreatDoorMs8
import Derived.Test.Qxb6500848aGreatDoorMs9
import Derived.Test.Qxb6500848aGreatDoorMs11
import Derived.Test.Qxb6500848aGreatDoorMs13
import Derived.Test.Qxb6500848aGreatDoorMs14
import Derived.Test.Qxb6500848aGreatDoorMq15
import Derived.Test.Qxb6500848aGreatDoorMq16
import Derived.Test.Qxb6500848aGreatDoorMq17
import Derived.Test.Qxb6500848aGreatDoorMq18
import Derived.Test.Qxb6500848aGreatDoorMq19
import Derived.Test.Qxb6500848aGreatDoorMq20
import Derived.Test.Qxb6500848aGreatDoorMqU
import Derived.Test.Qxb6500848aGreatDoorMqN
import Derived.Test.Qxb6500848aGreatDoorMqE
namespace Go.Proofs.Qxb6500848aGreatDoor
open Go.RowKit Pl Go.Maps
set_option maxRecDepth 100000

/-- What the model's Step answers. -/
def MoR (k oa ob oc : Int) (B : List Nd) (regs : List Int) (u p : Word) (B' : List Nd) (regs' : List Int) (v : Value) : Prop :=
  if 0 ≤ k ∧ k ≤ 14 then (if regs = [] ∧ 4 < k then B' = B ∧ regs' = regs ∧ v = zeroV else Mend k oa ob oc B regs B' regs' v)
  else if regs = [] then B' = B ∧ regs' = regs ∧ v = zeroV else Mask k ob B regs (rg regs oa) u p B' regs' v
theorem StPost.mono {R R' : List Nd → List Int → Value → Prop} {Y : Nat → Prop} {w : World} {hb ab nb : Nat} {B : List Nd} {e : Ending} {w' : World} (h : StPost R Y w hb ab nb B e w') (hR : ∀ a b c, R a b c → R' a b c) : StPost R' Y w hb ab nb B e w' := by
  obtain ⟨Y', nb', B', regs', v, h1, h2, h3⟩ := h
  exact ⟨Y', nb', B', regs', v, h1, hR _ _ _ h2, h3⟩

theorem mstep_walk {Y : Nat → Prop} {w : World} {hb ab nb : Nat} {B : List Nd} {regs : List Int} (hM : Mo Y w hb ab nb B regs) (hl : regs.length ≤ 8) (kd oa ob oc o6 : Int) (wa pa : Option Addr) (wn wc pn pc : Nat) {wd pd : Word} (hw : Ints Y w (.slice wa wn wc) wd) (hwz : Nz (.slice wa wn wc)) (hwl : wd.length ≤ 65536) (hp : Ints Y w (.slice pa pn pc) pd) (hpz : Nz (.slice pa pn pc)) (hpl : pd.length ≤ 65536) (hg : Gd tabC w) (hw0 : 3 < w.heap.size) :
    Calls Tryz.prog 62 #[.pointer (some ⟨hb, 0, none⟩), .agg #[.int .i64 kd, .int .i64 oa, .int .i64 ob, .int .i64 oc, .slice wa wn wc, .slice pa pn pc, .int .i64 o6]] w (StPost (MoR kd oa ob oc B regs (wd.take 5) (pd.take 5)) Y w hb ab nb B) := by
  by_cases h14 : 0 ≤ kd ∧ kd ≤ 14
  · by_cases he : regs = [] ∧ 4 < kd
    · exact (stepE hM he.1 kd he.2 oa ob oc o6 wa pa wn wc pn pc).mono (fun _ _ q => q.mono (fun _ _ _ r => by unfold MoR; rw [if_pos h14, if_pos he]; exact r))
    · have hm : ∀ e w', StPost (Mend kd oa ob oc B regs) Y w hb ab nb B e w' → StPost (MoR kd oa ob oc B regs (wd.take 5) (pd.take 5)) Y w hb ab nb B e w' := fun _ _ q => q.mono (fun _ _ _ r => by unfold MoR; rw [if_pos h14, if_neg he]; exact r)
      by_cases h4 : 4 < kd
      · have hne : regs ≠ [] := fun e => he ⟨e, h4⟩
        have hc : kd = 5 ∨ kd = 6 ∨ kd = 7 ∨ kd = 8 ∨ kd = 9 ∨ kd = 10 ∨ kd = 11 ∨ kd = 12 ∨ kd = 13 ∨ kd = 14 := by omega
        rcases hc with rfl | rfl | rfl | rfl | rfl | rfl | rfl | rfl | rfl | rfl
        · exact (step5 hM hl hne oa ob oc o6 wa pa wn wc pn pc hw hwz hwl hp hpz hpl).mono hm
        · exact (step6 hM hl hne oa ob oc o6 wa pa wn wc pn pc hw hwz hwl hp hpz hpl).mono hm
        · exact (step7 hM hl hne oa ob oc o6 wa pa wn wc pn pc hw hwz hwl hp hpz hpl).mono hm
        · exact (step8 hM hl hne oa ob oc o6 wa pa wn wc pn pc hw hwz hwl hp hpz hpl).mono hm
        · exact (step9 hM hl hne oa ob oc o6 wa pa wn wc pn pc hw hwz hwl hp hpz hpl).mono hm
        · exact (step10 hM hl hne oa ob oc o6 wa pa wn wc pn pc hw hwz hwl hp hpz hpl).mono hm
        · exact (step11 hM hl hne oa ob oc o6 wa pa wn wc pn pc hw hwz hwl hp hpz hpl).mono hm
        · exact (step12 hM hl hne oa ob oc o6 wa pa wn wc pn pc hw hwz hwl hp hpz hpl).mono hm
        · exact (step13 hM hl hne oa ob oc o6 wa pa wn wc pn pc hw hwz hwl hp hpz hpl).mono hm
        · exact (step14 hM hl hne oa ob oc o6 wa pa wn wc pn pc hw hwz hwl hp hpz hpl).mono hm
      · have hc : kd = 0 ∨ kd = 1 ∨ kd = 2 ∨ kd = 3 ∨ kd = 4 := by omega
        rcases hc with rfl | rfl | rfl | rfl | rfl
        · exact (step0 hM hl oa ob oc o6 wa pa wn wc pn pc).mono hm
        · exact (step1 hM hl oa ob oc o6 wa pa wn wc pn pc).mono hm
        · exact (step2 hM hl oa ob oc o6 wa pa wn wc pn pc).mono hm
        · exact (step3 hM hl oa ob oc o6 wa pa wn wc pn pc).mono hm
        · exact (step4 hM hl oa ob oc o6 wa pa wn wc pn pc).mono hm
  · by_cases he : regs = []
    · have hm : ∀ e w', StPost (fun B' regs' v => B' = B ∧ regs' = regs ∧ v = zeroV) Y w hb ab nb B e w' → StPost (MoR kd oa ob oc B regs (wd.take 5) (pd.take 5)) Y w hb ab nb B e w' := fun _ _ q => q.mono (fun _ _ _ r => by unfold MoR; rw [if_neg h14, if_pos he]; exact r)
      by_cases h0 : kd < 0
      · exact (stepF hM he kd h0 oa ob oc o6 wa pa wn wc pn pc).mono hm
      · exact (stepE hM he kd (by omega) oa ob oc o6 wa pa wn wc pn pc).mono hm
    · have hm : ∀ e w', StPost (Mask kd ob B regs (rg regs oa) (wd.take 5) (pd.take 5)) Y w hb ab nb B e w' → StPost (MoR kd oa ob oc B regs (wd.take 5) (pd.take 5)) Y w hb ab nb B e w' := fun _ _ q => q.mono (fun _ _ _ r => by unfold MoR; rw [if_neg h14, if_neg he]; exact r)
      by_cases h0 : kd < 0
      · exact (maskN hM hl he kd h0 oa ob oc o6 wa pa wn wc pn pc hw hwz hwl hp hpz hpl hg hw0).mono hm
      · by_cases h20 : 20 < kd
        · exact (maskU hM hl he kd h20 oa ob oc o6 wa pa wn wc pn pc hw hwz hwl hp hpz hpl hg hw0).mono hm
        · have hc : kd = 15 ∨ kd = 16 ∨ kd = 17 ∨ kd = 18 ∨ kd = 19 ∨ kd = 20 := by omega
          rcases hc with rfl | rfl | rfl | rfl | rfl | rfl
          · exact (mask15 hM hl he oa ob oc o6 wa pa wn wc pn pc hw hwz hwl hp hpz hpl hg hw0).mono hm
          · exact (mask16 hM hl he oa ob oc o6 wa pa wn wc pn pc hw hwz hwl hp hpz hpl hg hw0).mono hm
          · exact (mask17 hM hl he oa ob oc o6 wa pa wn wc pn pc hw hwz hwl hp hpz hpl hg hw0).mono hm
          · exact (mask18 hM hl he oa ob oc o6 wa pa wn wc pn pc hw hwz hwl hp hpz hpl hg hw0).mono hm
          · exact (mask19 hM hl he oa ob oc o6 wa pa wn wc pn pc hw hwz hwl hp hpz hpl hg hw0).mono hm
          · exact (mask20 hM hl he oa ob oc o6 wa pa wn wc pn pc hw hwz hwl hp hpz hpl hg hw0).mono hm
end Go.Proofs.Qxb6500848aGreatDoor
