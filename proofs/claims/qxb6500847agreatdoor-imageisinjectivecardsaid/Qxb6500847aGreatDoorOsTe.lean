/-
  typedStore: the closures that run an update.
-/
import Derived.Test.Qxb6500847aGreatDoorOsTa
import Derived.Test.Qxb6500847aGreatDoorOsTd
import Derived.Test.Qxb6500847aGreatDoorOsRf0
import Derived.Test.Qxb6500847aGreatDoorOsRf1
import Derived.Test.Qxb6500847aGreatDoorOsRf2
import Derived.Test.Qxb6500847aGreatDoorOsRf3
import Derived.Test.Qxb6500847aGreatDoorOsRf4
import Derived.Test.Qxb6500847aGreatDoorOsRf5
namespace Go.Proofs.Qxb6500847aGreatDoor.Os
open Go.RowKit FloorA
set_option maxRecDepth 100000
section
variable {A : Nat} {rb sb : Nat → Nat} {s : Av} {tl : Nat → List Int} {ws : Nat → Nat → Nat → Int} {w : World} {L : Nat → List Nat} {n : Nat}
/-- The boxes of the variables a and ref. -/
structure Bx (ba br A i : Nat) (g : Int) (w : World) : Prop where
  a : w.cell? ⟨ba, 0, none⟩ = some (.pointer (some ⟨A, 0, none⟩))
  r0 : w.cell? ⟨br, 0, none⟩ = some (.int .u16 (i : Int))
  r1 : w.cell? ⟨br, 1, none⟩ = some (.int .u32 g)
theorem Bx.below {w' : World} {ba br A i : Nat} {g : Int} (h : Bx ba br A i g w) (k : Below w.heap.size w w') : Bx ba br A i g w' :=
  ⟨(k.cell (p := ⟨ba, 0, none⟩) (cell_lt h.a)).trans h.a, (k.cell (p := ⟨br, 0, none⟩) (cell_lt h.r0)).trans h.r0, (k.cell (p := ⟨br, 1, none⟩) (cell_lt h.r1)).trans h.r1⟩
theorem load_ref {b i : Nat} {g : Int} (h0 : w.cell? ⟨b, 0, none⟩ = some (.int .u16 (i : Int))) (h1 : w.cell? ⟨b, 1, none⟩ = some (.int .u32 g)) : (loadVar 32 ⟨b, 0, none⟩).run Tryz.prog w = .ok (.agg #[.int .u16 (i : Int), .int .u32 g]) w :=
  run_loadVar_mid w b 0 32 [.int .u16 (i : Int), .int .u32 g] _ (fun j v hj => by
    match j, hj with
    | 0, hj => simp only [List.getElem?_cons_zero, Option.some.injEq] at hj; subst hj; exact h0
    | 1, hj => simp only [List.getElem?_cons_succ, List.getElem?_cons_zero, Option.some.injEq] at hj; subst hj; exact h1) Tryz.underlying32 rfl (by kernel_rfl)
theorem cz_ch {t f b n v : Nat} {W : Nat → Int} {e : Ending} {w' : World} (h : CzPost b 0 n (rowL t (upd W f (v : Int))) w e w') (hW : Wq t W) (hv : (v : Int) < fMax t f) : ChPost t b (upd W f (v : Int)) w e w' :=
  ⟨h.1, fun x hx => by
    unfold upd
    by_cases hxf : x = f
    · rw [if_pos hxf, hxf]; exact ⟨by omega, hv⟩
    · rw [if_neg hxf]; exact hW.1 x hx, h.2.2, h.2.1.ext⟩
theorem cz_cc {f b v : Nat} {W : Nat → Int} {e : Ending} {w' : World} (h : CzPost b 0 8 (cellL (upd W f (v : Int)) 0) w e w') (hW : ∀ f, f < 7 → 0 ≤ W f ∧ W f < fMax 0 f) (hv : (v : Int) < fMax 0 f) : CcPost b (upd W f (v : Int)) w e w' :=
  ⟨h.1, fun x hx => by
    unfold upd
    by_cases hxf : x = f
    · rw [if_pos hxf, hxf]; exact ⟨by omega, hv⟩
    · rw [if_neg hxf]; exact hW x hx, h.2.2, h.2.1.ext⟩
theorem ent151 : ∀ args W, (callFunc 151 args).run Tryz.prog W = .ok (.enter 151 args) W := enters_of Tryz.func151 (by kernel_rfl) rfl
set_option maxHeartbeats 1600000 in
theorem with150 (fn : Nat) (caps : Array Value) (ba br : Nat) (w : World) :
    Calls Tryz.prog 150 #[.func (.func fn) #[] caps, .pointer (some ⟨ba, 0, none⟩), .pointer (some ⟨br, 0, none⟩)] w fun e w' => (∃ bc, e = .returned (.func (.func 151) #[] #[.pointer (some ⟨ba, 0, none⟩), .pointer (some ⟨br, 0, none⟩), .pointer (some ⟨bc, 0, none⟩)]) ∧ w'.cell? ⟨bc, 0, none⟩ = some (.func (.func fn) #[] caps)) ∧ Below w.heap.size w w' := by
  go_enter Tryz.func150, Tryz.ntmps150
  go_wp2_with fail
  go_ret
  exact ⟨⟨_, rfl, cell_of_one (heap_alloc_new w _)⟩, alloc_below _⟩
set_option maxHeartbeats 1600000 in
theorem run151 {ba br bc : Nat} (h : Ms w A rb sb s tl ws) (hI : IV s tl L n) (hW : Wr ws) (hK : Kd w) (kl : 1 < w.heap.size) (i : Nat) (g : Int) (F : (Nat → Int) → Nat → Int) (fn : Nat) (caps : Array Value) (hent : ∀ args W, (callFunc fn args).run Tryz.prog W = .ok (.enter fn args) W)
    (hch : ∀ (w1 : World) (b : Nat) (W : Nat → Int), Below w.heap.size w w1 → w.heap.size ≤ b → Wq 1 W → w1.rangeAt b 0 (rowL 1 W) → (∀ q, w1.frozen? ⟨b, q, none⟩ = false) → Calls Tryz.prog fn (#[.pointer (some ⟨b, 0, none⟩)] ++ caps) w1 (ChPost 1 b (F W) w1))
    (hx : Bx ba br A i g w) (hc : w.cell? ⟨bc, 0, none⟩ = some (.func (.func fn) #[] caps)) :
    Calls Tryz.prog 151 #[.pointer (some ⟨ba, 0, none⟩), .pointer (some ⟨br, 0, none⟩), .pointer (some ⟨bc, 0, none⟩)] w (MrPost A rb sb s tl ws (updS s ws i g 1 F) w) := by
  have HU := hideIt (upd_walk1 h hI hW hK kl i g F fn caps hent hch)
  have x1 := hx.a
  have x2 := hx.r0
  have x3 := hx.r1
  clear h hI hW hK hch hx
  go_enter Tryz.func151, Tryz.ntmps151
  go_wp2_with fail
  go_at_call 152
  refine HU.out.mono ?_
  intro e w1 hh
  obtain ⟨v, rfl⟩ := hh.ret
  have HH := hideIt hh
  clear hh
  go_wp2_with fail
  go_ret
  exact HH.out
theorem ent164 : ∀ args W, (callFunc 164 args).run Tryz.prog W = .ok (.enter 164 args) W := enters_of Tryz.func164 (by kernel_rfl) rfl
set_option maxHeartbeats 1600000 in
theorem with163 (fn : Nat) (caps : Array Value) (ba br : Nat) (w : World) :
    Calls Tryz.prog 163 #[.func (.func fn) #[] caps, .pointer (some ⟨ba, 0, none⟩), .pointer (some ⟨br, 0, none⟩)] w fun e w' => (∃ bc, e = .returned (.func (.func 164) #[] #[.pointer (some ⟨ba, 0, none⟩), .pointer (some ⟨br, 0, none⟩), .pointer (some ⟨bc, 0, none⟩)]) ∧ w'.cell? ⟨bc, 0, none⟩ = some (.func (.func fn) #[] caps)) ∧ Below w.heap.size w w' := by
  go_enter Tryz.func163, Tryz.ntmps163
  go_wp2_with fail
  go_ret
  exact ⟨⟨_, rfl, cell_of_one (heap_alloc_new w _)⟩, alloc_below _⟩
set_option maxHeartbeats 1600000 in
theorem run164 {ba br bc : Nat} (h : Ms w A rb sb s tl ws) (hI : IV s tl L n) (hW : Wr ws) (hK : Kd w) (kl : 1 < w.heap.size) (i : Nat) (g : Int) (F : (Nat → Int) → Nat → Int) (fn : Nat) (caps : Array Value) (hent : ∀ args W, (callFunc fn args).run Tryz.prog W = .ok (.enter fn args) W)
    (hch : ∀ (w1 : World) (b : Nat) (W : Nat → Int), Below w.heap.size w w1 → w.heap.size ≤ b → Wq 2 W → w1.rangeAt b 0 (rowL 2 W) → (∀ q, w1.frozen? ⟨b, q, none⟩ = false) → Calls Tryz.prog fn (#[.pointer (some ⟨b, 0, none⟩)] ++ caps) w1 (ChPost 2 b (F W) w1))
    (hx : Bx ba br A i g w) (hc : w.cell? ⟨bc, 0, none⟩ = some (.func (.func fn) #[] caps)) :
    Calls Tryz.prog 164 #[.pointer (some ⟨ba, 0, none⟩), .pointer (some ⟨br, 0, none⟩), .pointer (some ⟨bc, 0, none⟩)] w (MrPost A rb sb s tl ws (updS s ws i g 2 F) w) := by
  have HU := hideIt (upd_walk2 h hI hW hK kl i g F fn caps hent hch)
  have x1 := hx.a
  have x2 := hx.r0
  have x3 := hx.r1
  clear h hI hW hK hch hx
  go_enter Tryz.func164, Tryz.ntmps164
  go_wp2_with fail
  go_at_call 165
  refine HU.out.mono ?_
  intro e w1 hh
  obtain ⟨v, rfl⟩ := hh.ret
  have HH := hideIt hh
  clear hh
  go_wp2_with fail
  go_ret
  exact HH.out
theorem ent170 : ∀ args W, (callFunc 170 args).run Tryz.prog W = .ok (.enter 170 args) W := enters_of Tryz.func170 (by kernel_rfl) rfl
set_option maxHeartbeats 1600000 in
theorem with169 (fn : Nat) (caps : Array Value) (ba br : Nat) (w : World) :
    Calls Tryz.prog 169 #[.func (.func fn) #[] caps, .pointer (some ⟨ba, 0, none⟩), .pointer (some ⟨br, 0, none⟩)] w fun e w' => (∃ bc, e = .returned (.func (.func 170) #[] #[.pointer (some ⟨ba, 0, none⟩), .pointer (some ⟨br, 0, none⟩), .pointer (some ⟨bc, 0, none⟩)]) ∧ w'.cell? ⟨bc, 0, none⟩ = some (.func (.func fn) #[] caps)) ∧ Below w.heap.size w w' := by
  go_enter Tryz.func169, Tryz.ntmps169
  go_wp2_with fail
  go_ret
  exact ⟨⟨_, rfl, cell_of_one (heap_alloc_new w _)⟩, alloc_below _⟩
set_option maxHeartbeats 1600000 in
theorem run170 {ba br bc : Nat} (h : Ms w A rb sb s tl ws) (hI : IV s tl L n) (hW : Wr ws) (hK : Kd w) (kl : 1 < w.heap.size) (i : Nat) (g : Int) (F : (Nat → Int) → Nat → Int) (fn : Nat) (caps : Array Value) (hent : ∀ args W, (callFunc fn args).run Tryz.prog W = .ok (.enter fn args) W)
    (hch : ∀ (w1 : World) (b : Nat) (W : Nat → Int), Below w.heap.size w w1 → w.heap.size ≤ b → Wq 3 W → w1.rangeAt b 0 (rowL 3 W) → (∀ q, w1.frozen? ⟨b, q, none⟩ = false) → Calls Tryz.prog fn (#[.pointer (some ⟨b, 0, none⟩)] ++ caps) w1 (ChPost 3 b (F W) w1))
    (hx : Bx ba br A i g w) (hc : w.cell? ⟨bc, 0, none⟩ = some (.func (.func fn) #[] caps)) :
    Calls Tryz.prog 170 #[.pointer (some ⟨ba, 0, none⟩), .pointer (some ⟨br, 0, none⟩), .pointer (some ⟨bc, 0, none⟩)] w (MrPost A rb sb s tl ws (updS s ws i g 3 F) w) := by
  have HU := hideIt (upd_walk3 h hI hW hK kl i g F fn caps hent hch)
  have x1 := hx.a
  have x2 := hx.r0
  have x3 := hx.r1
  clear h hI hW hK hch hx
  go_enter Tryz.func170, Tryz.ntmps170
  go_wp2_with fail
  go_at_call 171
  refine HU.out.mono ?_
  intro e w1 hh
  obtain ⟨v, rfl⟩ := hh.ret
  have HH := hideIt hh
  clear hh
  go_wp2_with fail
  go_ret
  exact HH.out
theorem ent179 : ∀ args W, (callFunc 179 args).run Tryz.prog W = .ok (.enter 179 args) W := enters_of Tryz.func179 (by kernel_rfl) rfl
set_option maxHeartbeats 1600000 in
theorem with178 (fn : Nat) (caps : Array Value) (ba br : Nat) (w : World) :
    Calls Tryz.prog 178 #[.func (.func fn) #[] caps, .pointer (some ⟨ba, 0, none⟩), .pointer (some ⟨br, 0, none⟩)] w fun e w' => (∃ bc, e = .returned (.func (.func 179) #[] #[.pointer (some ⟨ba, 0, none⟩), .pointer (some ⟨br, 0, none⟩), .pointer (some ⟨bc, 0, none⟩)]) ∧ w'.cell? ⟨bc, 0, none⟩ = some (.func (.func fn) #[] caps)) ∧ Below w.heap.size w w' := by
  go_enter Tryz.func178, Tryz.ntmps178
  go_wp2_with fail
  go_ret
  exact ⟨⟨_, rfl, cell_of_one (heap_alloc_new w _)⟩, alloc_below _⟩
set_option maxHeartbeats 1600000 in
theorem run179 {ba br bc : Nat} (h : Ms w A rb sb s tl ws) (hI : IV s tl L n) (hW : Wr ws) (hK : Kd w) (kl : 1 < w.heap.size) (i : Nat) (g : Int) (F : (Nat → Int) → Nat → Int) (fn : Nat) (caps : Array Value) (hent : ∀ args W, (callFunc fn args).run Tryz.prog W = .ok (.enter fn args) W)
    (hch : ∀ (w1 : World) (b : Nat) (W : Nat → Int), Below w.heap.size w w1 → w.heap.size ≤ b → Wq 5 W → w1.rangeAt b 0 (rowL 5 W) → (∀ q, w1.frozen? ⟨b, q, none⟩ = false) → Calls Tryz.prog fn (#[.pointer (some ⟨b, 0, none⟩)] ++ caps) w1 (ChPost 5 b (F W) w1))
    (hx : Bx ba br A i g w) (hc : w.cell? ⟨bc, 0, none⟩ = some (.func (.func fn) #[] caps)) :
    Calls Tryz.prog 179 #[.pointer (some ⟨ba, 0, none⟩), .pointer (some ⟨br, 0, none⟩), .pointer (some ⟨bc, 0, none⟩)] w (MrPost A rb sb s tl ws (updS s ws i g 5 F) w) := by
  have HU := hideIt (upd_walk5 h hI hW hK kl i g F fn caps hent hch)
  have x1 := hx.a
  have x2 := hx.r0
  have x3 := hx.r1
  clear h hI hW hK hch hx
  go_enter Tryz.func179, Tryz.ntmps179
  go_wp2_with fail
  go_at_call 180
  refine HU.out.mono ?_
  intro e w1 hh
  obtain ⟨v, rfl⟩ := hh.ret
  have HH := hideIt hh
  clear hh
  go_wp2_with fail
  go_ret
  exact HH.out
theorem ent138 : ∀ args W, (callFunc 138 args).run Tryz.prog W = .ok (.enter 138 args) W := enters_of Tryz.func138 (by kernel_rfl) rfl
set_option maxHeartbeats 1600000 in
theorem with137 (fn : Nat) (caps : Array Value) (ba br bs : Nat) (w : World) :
    Calls Tryz.prog 137 #[.func (.func fn) #[] caps, .pointer (some ⟨ba, 0, none⟩), .pointer (some ⟨br, 0, none⟩), .pointer (some ⟨bs, 0, none⟩)] w fun e w' => (∃ bc, e = .returned (.func (.func 138) #[] #[.pointer (some ⟨ba, 0, none⟩), .pointer (some ⟨br, 0, none⟩), .pointer (some ⟨bs, 0, none⟩), .pointer (some ⟨bc, 0, none⟩)]) ∧ w'.cell? ⟨bc, 0, none⟩ = some (.func (.func fn) #[] caps)) ∧ Below w.heap.size w w' := by
  go_enter Tryz.func137, Tryz.ntmps137
  go_wp2_with fail
  go_ret
  exact ⟨⟨_, rfl, cell_of_one (heap_alloc_new w _)⟩, alloc_below _⟩
theorem ent141 : ∀ args W, (callFunc 141 args).run Tryz.prog W = .ok (.enter 141 args) W := enters_of Tryz.func141 (by kernel_rfl) rfl
set_option maxHeartbeats 1600000 in
theorem with140 (fn : Nat) (caps : Array Value) (ba br bs : Nat) (w : World) :
    Calls Tryz.prog 140 #[.func (.func fn) #[] caps, .pointer (some ⟨ba, 0, none⟩), .pointer (some ⟨br, 0, none⟩), .pointer (some ⟨bs, 0, none⟩)] w fun e w' => (∃ bc, e = .returned (.func (.func 141) #[] #[.pointer (some ⟨ba, 0, none⟩), .pointer (some ⟨br, 0, none⟩), .pointer (some ⟨bc, 0, none⟩), .pointer (some ⟨bs, 0, none⟩)]) ∧ w'.cell? ⟨bc, 0, none⟩ = some (.func (.func fn) #[] caps)) ∧ Below w.heap.size w w' := by
  go_enter Tryz.func140, Tryz.ntmps140
  go_wp2_with fail
  go_ret
  exact ⟨⟨_, rfl, cell_of_one (heap_alloc_new w _)⟩, alloc_below _⟩
theorem ent144 : ∀ args W, (callFunc 144 args).run Tryz.prog W = .ok (.enter 144 args) W := enters_of Tryz.func144 (by kernel_rfl) rfl
theorem ent146 : ∀ args W, (callFunc 146 args).run Tryz.prog W = .ok (.enter 146 args) W := enters_of Tryz.func146 (by kernel_rfl) rfl
theorem ent147 : ∀ args W, (callFunc 147 args).run Tryz.prog W = .ok (.enter 147 args) W := enters_of Tryz.func147 (by kernel_rfl) rfl
theorem ent148 : ∀ args W, (callFunc 148 args).run Tryz.prog W = .ok (.enter 148 args) W := enters_of Tryz.func148 (by kernel_rfl) rfl
theorem ent149 : ∀ args W, (callFunc 149 args).run Tryz.prog W = .ok (.enter 149 args) W := enters_of Tryz.func149 (by kernel_rfl) rfl
theorem ent153 : ∀ args W, (callFunc 153 args).run Tryz.prog W = .ok (.enter 153 args) W := enters_of Tryz.func153 (by kernel_rfl) rfl
theorem ent154 : ∀ args W, (callFunc 154 args).run Tryz.prog W = .ok (.enter 154 args) W := enters_of Tryz.func154 (by kernel_rfl) rfl
theorem ent155 : ∀ args W, (callFunc 155 args).run Tryz.prog W = .ok (.enter 155 args) W := enters_of Tryz.func155 (by kernel_rfl) rfl
theorem ent156 : ∀ args W, (callFunc 156 args).run Tryz.prog W = .ok (.enter 156 args) W := enters_of Tryz.func156 (by kernel_rfl) rfl
theorem ent157 : ∀ args W, (callFunc 157 args).run Tryz.prog W = .ok (.enter 157 args) W := enters_of Tryz.func157 (by kernel_rfl) rfl
theorem ent158 : ∀ args W, (callFunc 158 args).run Tryz.prog W = .ok (.enter 158 args) W := enters_of Tryz.func158 (by kernel_rfl) rfl
theorem ent159 : ∀ args W, (callFunc 159 args).run Tryz.prog W = .ok (.enter 159 args) W := enters_of Tryz.func159 (by kernel_rfl) rfl
theorem ent160 : ∀ args W, (callFunc 160 args).run Tryz.prog W = .ok (.enter 160 args) W := enters_of Tryz.func160 (by kernel_rfl) rfl
theorem ent161 : ∀ args W, (callFunc 161 args).run Tryz.prog W = .ok (.enter 161 args) W := enters_of Tryz.func161 (by kernel_rfl) rfl
theorem ent162 : ∀ args W, (callFunc 162 args).run Tryz.prog W = .ok (.enter 162 args) W := enters_of Tryz.func162 (by kernel_rfl) rfl
theorem ent166 : ∀ args W, (callFunc 166 args).run Tryz.prog W = .ok (.enter 166 args) W := enters_of Tryz.func166 (by kernel_rfl) rfl
theorem ent167 : ∀ args W, (callFunc 167 args).run Tryz.prog W = .ok (.enter 167 args) W := enters_of Tryz.func167 (by kernel_rfl) rfl
theorem ent168 : ∀ args W, (callFunc 168 args).run Tryz.prog W = .ok (.enter 168 args) W := enters_of Tryz.func168 (by kernel_rfl) rfl
theorem ent172 : ∀ args W, (callFunc 172 args).run Tryz.prog W = .ok (.enter 172 args) W := enters_of Tryz.func172 (by kernel_rfl) rfl
theorem ent173 : ∀ args W, (callFunc 173 args).run Tryz.prog W = .ok (.enter 173 args) W := enters_of Tryz.func173 (by kernel_rfl) rfl
theorem ent174 : ∀ args W, (callFunc 174 args).run Tryz.prog W = .ok (.enter 174 args) W := enters_of Tryz.func174 (by kernel_rfl) rfl
theorem ent175 : ∀ args W, (callFunc 175 args).run Tryz.prog W = .ok (.enter 175 args) W := enters_of Tryz.func175 (by kernel_rfl) rfl
theorem ent177 : ∀ args W, (callFunc 177 args).run Tryz.prog W = .ok (.enter 177 args) W := enters_of Tryz.func177 (by kernel_rfl) rfl
theorem ent181 : ∀ args W, (callFunc 181 args).run Tryz.prog W = .ok (.enter 181 args) W := enters_of Tryz.func181 (by kernel_rfl) rfl
theorem ent182 : ∀ args W, (callFunc 182 args).run Tryz.prog W = .ok (.enter 182 args) W := enters_of Tryz.func182 (by kernel_rfl) rfl
theorem ent143 : ∀ args W, (callFunc 143 args).run Tryz.prog W = .ok (.enter 143 args) W := enters_of Tryz.func143 (by kernel_rfl) rfl
set_option maxHeartbeats 1600000 in
theorem run138 {ba br bs bc c : Nat} (hc16 : c < 16) (h : Ms w A rb sb s tl ws) (hI : IV s tl L n) (hW : Wr ws) (hK : Kd w) (kl : 1 < w.heap.size) (i : Nat) (g : Int) (F : (Nat → Int) → Nat → Int) (fn : Nat) (caps : Array Value) (hent : ∀ args W, (callFunc fn args).run Tryz.prog W = .ok (.enter fn args) W)
    (hch : ∀ (w1 : World) (b : Nat) (W : Nat → Int), Below w.heap.size w w1 → w.heap.size ≤ b → (∀ f, f < 7 → 0 ≤ W f ∧ W f < fMax 0 f) → w1.rangeAt b 0 (cellL W 0) → (∀ q, w1.frozen? ⟨b, q, none⟩ = false) → Calls Tryz.prog fn (#[.pointer (some ⟨b, 0, none⟩)] ++ caps) w1 (CcPost b (F W) w1))
    (hx : Bx ba br A i g w) (hs : w.cell? ⟨bs, 0, none⟩ = some (.int .i64 (c : Int))) (hc : w.cell? ⟨bc, 0, none⟩ = some (.func (.func fn) #[] caps)) :
    Calls Tryz.prog 138 #[.pointer (some ⟨ba, 0, none⟩), .pointer (some ⟨br, 0, none⟩), .pointer (some ⟨bs, 0, none⟩), .pointer (some ⟨bc, 0, none⟩)] w (MrPost A rb sb s tl ws (updS s ws i g 0 (fun W => putC W c (F (fun j => W (7 * c + j))))) w) := by
  have HU := hideIt (UpdateCell_walk h hI hW hK kl i g hc16 F fn caps hent hch)
  have x1 := hx.a
  have x2 := hx.r0
  have x3 := hx.r1
  clear h hI hW hK hch hx
  go_enter Tryz.func138, Tryz.ntmps138
  go_wp2_with fail
  go_at_call 139
  refine HU.out.mono ?_
  intro e w1 hh
  obtain ⟨v, rfl⟩ := hh.ret
  have HH := hideIt hh
  clear hh
  go_wp2_with fail
  go_ret
  exact HH.out
set_option maxHeartbeats 1600000 in
theorem run175 {ba br V v : Nat} (hv : v < 281474976710656) (h : Ms w A rb sb s tl ws) (hI : IV s tl L n) (hW : Wr ws) (hK : Kd w) (kl : 1 < w.heap.size) (i : Nat) (g : Int)
    (hx : Bx ba br A i g w) (hV : w.cell? ⟨V, 0, none⟩ = some (.int .u64 (v : Int))) :
    Calls Tryz.prog 175 #[.pointer (some ⟨ba, 0, none⟩), .pointer (some ⟨br, 0, none⟩), .pointer (some ⟨V, 0, none⟩)] w (MrPost A rb sb s tl ws (updS s ws i g 4 (fun W => upd W 0 (v : Int))) w) := by
  have lV := cell_lt hV
  have HU := hideIt (upd_walk4 h hI hW hK kl i g (fun W => upd W 0 (v : Int)) 177 #[.pointer (some ⟨V, 0, none⟩)] ent177 (fun w1 b W k1 _ k3 k4 k5 => (clo177 (o := 0) k4 k5 ((k1.cell (p := ⟨V, 0, none⟩) lV).trans hV) hv).mono (fun e w' hh => cz_ch hh k3 (by unfold fMax; simp; omega))))
  have x1 := hx.a
  have x2 := hx.r0
  have x3 := hx.r1
  clear h hI hW hK hx hV
  go_enter Tryz.func175, Tryz.ntmps175
  go_wp2_with fail
  go_at_call 176
  refine HU.out.mono ?_
  intro e w1 hh
  obtain ⟨v, rfl⟩ := hh.ret
  have HH := hideIt hh
  clear hh
  go_wp2_with fail
  go_ret
  exact HH.out
theorem cz_put {b c j v : Nat} {W : Nat → Int} {e : Ending} {w' : World} (hc : c < 16) (hj : j < 7) (hr : w.rangeAt b 0 (rowL 0 W)) (h : CzPost b (c * 8) 8 (cellL (upd (fun j => W (7 * c + j)) j (v : Int)) 0) w e w') (hW : Wq 0 W) (hv : (v : Int) < fMax 0 j) : ChPost 0 b (upd W (7 * c + j) (v : Int)) w e w' :=
  ⟨h.1, fun x hx => by
    unfold upd
    by_cases hxf : x = 7 * c + j
    · rw [if_pos hxf, hxf]
      refine ⟨by omega, ?_⟩
      have e1 : (7 * c + j) % 7 = j % 7 := by omega
      have e2 : fMax 0 (7 * c + j) = fMax 0 j := by simp only [fMax, e1]
      rw [e2]; exact hv
    · rw [if_neg hxf]; exact hW.1 x hx, cell_upd (o := 0) hr hc hj (by rw [Nat.zero_add]; exact h.2.1) (by rw [Nat.zero_add]; exact h.2.2), h.2.1.ext⟩
set_option maxHeartbeats 1600000 in
theorem clo143 {b bs bc c j v : Nat} {W : Nat → Int} (hc16 : c < 16) (hj : j < 7) (fn : Nat) (caps : Array Value) (hent : ∀ args W, (callFunc fn args).run Tryz.prog W = .ok (.enter fn args) W) (hr : w.rangeAt b 0 (rowL 0 W)) (hW : Wq 0 W) (hv : (v : Int) < fMax 0 j)
    (hs : w.cell? ⟨bs, 0, none⟩ = some (.int .i64 (c : Int))) (hc : w.cell? ⟨bc, 0, none⟩ = some (.func (.func fn) #[] caps)) (n1 : bs ≠ b) (n2 : bc ≠ b)
    (hch : Calls Tryz.prog fn (#[.pointer (some ⟨b, c * 8, none⟩)] ++ caps) w.drew (CzPost b (c * 8) 8 (cellL (upd (fun j => W (7 * c + j)) j (v : Int)) 0) w.drew)) :
    Calls Tryz.prog 143 #[.pointer (some ⟨b, 0, none⟩), .pointer (some ⟨bc, 0, none⟩), .pointer (some ⟨bs, 0, none⟩)] w (ChPost 0 b (upd W (7 * c + j) (v : Int)) w) := by
  have c0 : decide ((c : Int) < 0) = false := decide_eq_false (by omega)
  have c1 : decide ((16 : Int) ≤ (c : Int)) = false := decide_eq_false (by omega)
  have c2 : (0 : Int) ≤ (c : Int) := by omega
  have c3 : (c : Int) < 16 := by omega
  have HCH := hideIt hch
  have HR := hideIt hr
  have HW : Hid (Wq 0 W) := hW
  have HV : Hid ((v : Int) < fMax 0 j) := hv
  have hS0 : w.cell? ⟨bc, 0, none⟩ = some (.func (.func fn) #[] caps) ∧ w.cell? ⟨bs, 0, none⟩ = some (.int .i64 (c : Int)) := ⟨hc, hs⟩
  clear hch hr hW hv hs hc
  go_enter Tryz.func143, Tryz.ntmps143
  refine wp_region_held_drew (S := (fun w' => w'.cell? ⟨bc, 0, none⟩ = some (.func (.func fn) #[] caps) ∧ w'.cell? ⟨bs, 0, none⟩ = some (.int .i64 (c : Int)))) (by kernel_rfl) hS0 (fun hHeld => ?_)
  refine anyH_do (i := 0) (d := some 4) (v := (.func (.func fn) #[] caps)) rfl (by kernel_rfl) (by kernel_rfl) (by kernel_rfl) (fun _ _ _ h => h) (by intro w hw; obtain ⟨z1, z2⟩ := hw; go_simp) hHeld ?_
  simp only [Act.put, List.setIfInBounds_toArray, List.set_cons_zero, List.set_cons_succ]
  refine anyH_do (i := 1) (d := some 5) (v := (.pointer (some ⟨b, 0, none⟩))) rfl (by kernel_rfl) (by kernel_rfl) (by kernel_rfl) (fun _ _ _ h => h) (by intro w hw; go_simp) hHeld ?_
  simp only [Act.put, List.setIfInBounds_toArray, List.set_cons_zero, List.set_cons_succ]
  refine anyH_do (i := 2) (d := some 6) (v := (.int .i64 (c : Int))) rfl (by kernel_rfl) (by kernel_rfl) (by kernel_rfl) (fun _ _ _ h => h) (by intro w hw; obtain ⟨z1, z2⟩ := hw; go_simp) hHeld ?_
  simp only [Act.put, List.setIfInBounds_toArray, List.set_cons_zero, List.set_cons_succ]
  refine anyH_do (i := 3) (d := some 7) (v := (.pointer (some ⟨b, 0, none⟩))) rfl (by kernel_rfl) (by kernel_rfl) (by kernel_rfl) (fun _ _ _ h => h) (by intro w hw; go_simp) hHeld ?_
  simp only [Act.put, List.setIfInBounds_toArray, List.set_cons_zero, List.set_cons_succ]
  refine anyH_do (i := 4) (d := some 8) (v := (.pointer (some ⟨b, 0, none⟩))) rfl (by kernel_rfl) (by kernel_rfl) (by kernel_rfl) (fun _ _ _ h => h) (by intro w hw; go_simp) hHeld ?_
  simp only [Act.put, List.setIfInBounds_toArray, List.set_cons_zero, List.set_cons_succ]
  refine anyH_do (i := 5) (d := some 9) (v := (.pointer (some ⟨b, c * 8, none⟩))) rfl (by kernel_rfl) (by kernel_rfl) (by kernel_rfl) (fun _ _ _ h => h) (by intro w hw; go_simp) hHeld ?_
  simp only [Act.put, List.setIfInBounds_toArray, List.set_cons_zero, List.set_cons_succ]
  refine anyH_call (i := 6) (d := some 10) (f := fn) (args := #[.pointer (some ⟨b, c * 8, none⟩)] ++ caps) rfl (by kernel_rfl) (by go_simp) ?_
  refine HCH.out.mono ?_
  rintro e w1 ⟨rfl, q1, q2⟩
  refine ⟨_, rfl, ⟨(q1.ext.cell (p := ⟨bc, 0, none⟩) (cell_lt hHeld.1) n2).trans hHeld.1, (q1.ext.cell (p := ⟨bs, 0, none⟩) (cell_lt hHeld.2) n1).trans hHeld.2⟩, ?_⟩
  simp only [Act.put, List.setIfInBounds_toArray, List.set_cons_zero, List.set_cons_succ]
  have HF : Hid (ChPost 0 b (upd W (7 * c + j) (v : Int)) w (.returned (.tuple #[])) w1) := cz_put hc16 hj HR.out ⟨rfl, ⟨(Ext.of_below (below_d w) _).trans q1.ext (below_d w).size (fun _ _ q => q), q1.out, q1.frz⟩, q2⟩ HW.out HV.out
  clear q1 q2 hHeld
  refine wpAnyH_done (by kernel_rfl) ?_ _
  go_wp2_with fail
  go_end0
  exact HF.out
set_option maxHeartbeats 1600000 in
theorem run141 {ba br bs bc c j v : Nat} (hc16 : c < 16) (hj : j < 7) (h : Ms w A rb sb s tl ws) (hI : IV s tl L n) (hW : Wr ws) (hK : Kd w) (kl : 1 < w.heap.size) (i : Nat) (g : Int) (fn : Nat) (caps : Array Value) (hent : ∀ args W, (callFunc fn args).run Tryz.prog W = .ok (.enter fn args) W) (hv : (v : Int) < fMax 0 j)
    (hch : ∀ (w1 : World) (b : Nat) (W : Nat → Int), Below w.heap.size w w1 → w1.rangeAt b (c * 8) (cellL W 0) → (∀ q, w1.frozen? ⟨b, q, none⟩ = false) → Calls Tryz.prog fn (#[.pointer (some ⟨b, c * 8, none⟩)] ++ caps) w1 (CzPost b (c * 8) 8 (cellL (upd W j (v : Int)) 0) w1))
    (hx : Bx ba br A i g w) (hs : w.cell? ⟨bs, 0, none⟩ = some (.int .i64 (c : Int))) (hc : w.cell? ⟨bc, 0, none⟩ = some (.func (.func fn) #[] caps)) :
    Calls Tryz.prog 141 #[.pointer (some ⟨ba, 0, none⟩), .pointer (some ⟨br, 0, none⟩), .pointer (some ⟨bc, 0, none⟩), .pointer (some ⟨bs, 0, none⟩)] w (MrPost A rb sb s tl ws (updS s ws i g 0 (fun W => upd W (7 * c + j) (v : Int))) w) := by
  have ls := cell_lt hs
  have lc := cell_lt hc
  have HU := hideIt (upd_walk0 h hI hW hK kl i g (fun W => upd W (7 * c + j) (v : Int)) 143 #[.pointer (some ⟨bc, 0, none⟩), .pointer (some ⟨bs, 0, none⟩)] ent143 (fun w1 b W k1 k2 k3 k4 k5 => clo143 hc16 hj fn caps hent k4 k3 hv ((k1.cell (p := ⟨bs, 0, none⟩) ls).trans hs) ((k1.cell (p := ⟨bc, 0, none⟩) lc).trans hc) (fun q => by rw [q] at ls; exact absurd ls (by show ¬ b < _; omega)) (fun q => by rw [q] at lc; exact absurd lc (by show ¬ b < _; omega))
    (hch _ b _ (Below.thr k1 (below_d w1)) (fun jj vv hh => (cell_at (o := 0) k4 hc16) jj vv hh |> fun z => by rw [Nat.zero_add] at z; exact ((below_d w1).cell (p := ⟨b, c * 8 + jj, none⟩) (cell_lt z)).trans z) (fun q => k5 q))))
  have x1 := hx.a
  have x2 := hx.r0
  have x3 := hx.r1
  clear h hI hW hK hch hx
  go_enter Tryz.func141, Tryz.ntmps141
  go_wp2_with fail
  go_at_call 142
  refine HU.out.mono ?_
  intro e w1 hh
  obtain ⟨v, rfl⟩ := hh.ret
  have HH := hideIt hh
  clear hh
  go_wp2_with fail
  go_ret
  exact HH.out
end
end Go.Proofs.Qxb6500847aGreatDoor.Os
