/-
  The store's geometry and its counters, plainly.
-/
import Derived.Test.Qxb6500847aGreatDoorOxA
namespace Go.Proofs.Qxb6500847aGreatDoor.Os
open Go.RowKit FloorA
set_option maxRecDepth 100000
/-! ### Sums -/
def sumF (f : Nat → Int) : Nat → Int
  | 0 => 0
  | n + 1 => sumF f n + f n
theorem sumF_congr {f g : Nat → Int} : ∀ {n : Nat}, (∀ i, i < n → g i = f i) → sumF g n = sumF f n
  | 0, _ => rfl
  | n + 1, h => by
    show sumF g n + g n = sumF f n + f n
    rw [sumF_congr (fun i hi => h i (by omega)), h n (by omega)]
theorem sumF_upd {f g : Nat → Int} {c : Nat} : ∀ {n : Nat}, c < n → (∀ i, i < n → i ≠ c → g i = f i) → sumF g n = sumF f n - f c + g c
  | n + 1, hc, h => by
    show sumF g n + g n = sumF f n + f n - f c + g c
    by_cases e : c = n
    · subst e
      rw [sumF_congr (fun i hi => h i (by omega) (by omega))]
      omega
    · rw [sumF_upd (n := n) (by omega) (fun i hi hn => h i (by omega) hn), h n (by omega) (fun q => e q.symm)]
      omega
/-- The number, where p holds. -/
noncomputable def siF (p : Prop) (x : Int) : Int := open Classical in if p then x else 0
theorem siF_pos {p : Prop} (h : p) (x : Int) : siF p x = x := by unfold siF; exact if_pos h
theorem siF_neg {p : Prop} (h : ¬ p) (x : Int) : siF p x = 0 := by unfold siF; exact if_neg h
theorem siF_iff {p q : Prop} (h : p ↔ q) (x : Int) : siF p x = siF q x := by rw [propext h]
def one (p : Prop) [Decidable p] : Int := if p then 1 else 0
theorem sumF_one {f : Nat → Int} : ∀ {n : Nat}, (∀ i, i < n → 0 ≤ f i ∧ f i ≤ 1) → 0 ≤ sumF f n ∧ sumF f n ≤ (n : Int)
  | 0, _ => ⟨by show (0 : Int) ≤ 0; omega, by show (0 : Int) ≤ 0; omega⟩
  | n + 1, h => by
    have h1 := sumF_one (n := n) (fun i hi => h i (by omega))
    have h2 := h n (by omega)
    show 0 ≤ sumF f n + f n ∧ sumF f n + f n ≤ _
    omega
theorem one_01 (p : Prop) [Decidable p] : 0 ≤ one p ∧ one p ≤ 1 := by unfold one; split <;> omega
theorem one_pos {p : Prop} [Decidable p] (h : p) : one p = 1 := if_pos h
theorem one_neg {p : Prop} [Decidable p] (h : ¬ p) : one p = 0 := if_neg h
/-! ### Intervals -/
/-- The entries of the list lie side by side, from lo on, none meets another; the last ends at top. -/
def Chn (s : Av) : Int → List Nat → Int → Prop
  | lo, [], top => top = lo
  | lo, c :: r, top => lo ≤ (s.hd c).bas ∧ Chn s ((s.hd c).bas + (s.hd c).siz) r top
section
variable {s s' : Av} {L : Nat → List Nat} {n c p : Nat} {tl : Nat → List Int}
theorem Chn.congr : ∀ {l : List Nat} {lo top : Int}, (∀ c ∈ l, (s'.hd c).bas = (s.hd c).bas ∧ (s'.hd c).siz = (s.hd c).siz) → Chn s lo l top → Chn s' lo l top
  | [], _, _, _, h => h
  | c :: r, lo, top, hc, h => by
    obtain ⟨e1, e2⟩ := hc c (List.mem_cons_self ..)
    refine ⟨by rw [e1]; exact h.1, ?_⟩
    rw [e1, e2]
    exact Chn.congr (fun d hd => hc d (List.mem_cons_of_mem _ hd)) h.2
theorem Chn.le : ∀ {l : List Nat} {lo top : Int}, (∀ c ∈ l, 0 < (s.hd c).siz) → Chn s lo l top → lo ≤ top
  | [], _, _, _, h => by
    have : _ = _ := h
    omega
  | c :: r, lo, top, hp, h => by
    have h1 := Chn.le (fun d hd => hp d (List.mem_cons_of_mem _ hd)) h.2
    have h2 := hp c (List.mem_cons_self ..)
    have h3 := h.1
    omega
theorem Chn.snoc : ∀ {l : List Nat} {lo top : Int}, Chn s lo l top → top ≤ (s.hd c).bas → Chn s lo (l ++ [c]) ((s.hd c).bas + (s.hd c).siz)
  | [], lo, top, h, hc => ⟨by have : top = lo := h; omega, rfl⟩
  | d :: r, lo, top, h, hc => ⟨h.1, Chn.snoc h.2 hc⟩
/-- One entry is taken out. -/
theorem Chn.cut : ∀ {l1 l2 : List Nat} {lo top : Int}, Chn s lo (l1 ++ c :: l2) top → ∃ mid, Chn s lo l1 mid ∧ mid ≤ (s.hd c).bas ∧ Chn s ((s.hd c).bas + (s.hd c).siz) l2 top
  | [], _, lo, _, h => ⟨lo, rfl, h.1, h.2⟩
  | _ :: r, _, _, _, h => by
    obtain ⟨mid, h1, h2, h3⟩ := Chn.cut (l1 := r) h.2
    exact ⟨mid, ⟨h.1, h1⟩, h2, h3⟩
theorem Chn.join : ∀ {l1 : List Nat} {l2 : List Nat} {lo mid top lo2 : Int}, Chn s lo l1 mid → mid ≤ lo2 → l2 ≠ [] → Chn s lo2 l2 top → Chn s lo (l1 ++ l2) top
  | [], [], _, _, _, _, _, _, h, _ => absurd rfl h
  | [], d :: r, lo, mid, top, lo2, h1, h2, _, h3 => ⟨by have : mid = lo := h1; have := h3.1; omega, h3.2⟩
  | d :: r, l2, lo, mid, top, lo2, h1, h2, h, h3 => ⟨h1.1, Chn.join h1.2 h2 h h3⟩
/-- Where a chain ends. -/
theorem Chn.end : ∀ {l : List Nat} {a : Nat} {lo top : Int}, Chn s lo (l ++ [a]) top → top = (s.hd a).bas + (s.hd a).siz
  | [], _, _, _, h => h.2
  | _ :: r, _, _, _, h => Chn.end (l := r) h.2
theorem Chn.bounds : ∀ {l : List Nat} {lo top : Int}, (∀ c ∈ l, 0 < (s.hd c).siz) → Chn s lo l top → ∀ c ∈ l, lo ≤ (s.hd c).bas ∧ (s.hd c).bas + (s.hd c).siz ≤ top
  | [], _, _, _, _, c, hc => absurd hc (by simp)
  | d :: r, lo, top, hp, h, c, hc => by
    have hp' : ∀ x ∈ r, 0 < (s.hd x).siz := fun x hx => hp x (List.mem_cons_of_mem _ hx)
    have h1 := Chn.le hp' h.2
    have h2 := hp d (List.mem_cons_self ..)
    have h3 := h.1
    rcases List.mem_cons.1 hc with rfl | hc
    · exact ⟨h3, h1⟩
    · have := Chn.bounds hp' h.2 c hc
      omega
/-- Starts grow along a chain. -/
theorem Chn.sorted : ∀ {l : List Nat} {lo top : Int}, (∀ c ∈ l, 0 < (s.hd c).siz) → Chn s lo l top → l.Pairwise (fun a b => (s.hd a).bas + (s.hd a).siz ≤ (s.hd b).bas)
  | [], _, _, _, _ => List.Pairwise.nil
  | d :: r, lo, top, hp, h => by
    have hp' : ∀ x ∈ r, 0 < (s.hd x).siz := fun x hx => hp x (List.mem_cons_of_mem _ hx)
    exact List.Pairwise.cons (fun b hb => (Chn.bounds hp' h.2 b hb).1) (Chn.sorted hp' h.2)
/-! ### What holds of places -/
/-- A child's place: a multiple of its size, which is a power of two. -/
def Ali (h : Hd) : Prop := ∃ k u : Nat, h.siz = ((2 ^ k : Nat) : Int) ∧ h.bas = ((u * 2 ^ k : Nat) : Int) ∧ k ≤ 47 ∧ (h.typ = 1 → 4 ≤ k) ∧ (h.typ ≠ 1 → k = kBits h.typ.toNat)
structure Gm (s : Av) (L : Nat → List Nat) (n : Nat) : Prop where
  chn : ∀ p, IsReg s p → Chn s (s.hd p).bas (L p) (s.rg (p - 256)).top ∧ (s.rg (p - 256)).top ≤ (s.hd p).bas + (s.hd p).siz
  lim : ∀ c, c < 320 → (s.hd c).typ ≠ 0 → 0 ≤ (s.hd c).bas ∧ 0 < (s.hd c).siz ∧ (s.hd c).bas + (s.hd c).siz ≤ 281474976710656
  ali : ∀ c, c < 320 → (s.hd c).typ ≠ 0 → (s.hd c).par ≠ 65535 → Ali (s.hd c)
  rts : ∀ i j c d : Nat, i < j → j < n → s.rts i = (c : Int) → s.rts j = (d : Int) → (s.hd c).bas + (s.hd c).siz ≤ (s.hd d).bas
  fre : ∀ c, c < 320 → (s.hd c).typ = 0 → (s.hd c).bas = 0 ∧ (s.hd c).siz = 0 ∧ (s.hd c).par = 65535
  idl : ∀ c, c < 320 → (s.hd c).typ = 0 → (s.hd c).gen < 4294967295 → Idl s c
/-- The counters; D: the entries that are linked. -/
structure Ct (s : Av) (tl : Nat → List Int) (D : Nat → Prop) : Prop where
  l0 : s.lv 0 = 0
  lv : ∀ k : Nat, 1 ≤ k → k ≤ 7 → s.lv k = sumF (fun i => one ((s.hd i).typ = (k : Int))) 320
  c0 : s.c0 = sumF (fun i => one ((s.hd i).typ = 0 ∧ (s.hd i).gen = 4294967295)) 256
  c1 : s.c1 = sumF (fun i => one (256 ≤ i ∧ (s.hd i).typ = 0 ∧ (s.hd i).gen = 4294967295)) 320
  c2 : s.c2 = IntKind.u64.wrap (sumF (fun i => (s.hd i).siz) 256)
  c3 : s.c3 = IntKind.u64.wrap (sumF (fun i => siF (D i ∧ (s.hd i).par = 65535) (s.hd i).siz) 320)
  tl : ∀ t, t < 6 → ((tl t).length : Int) + sumF (fun i => one ((s.hd i).typ = ((t + 2 : Nat) : Int))) 320 = (nR t : Int)
theorem u64_wrap_add (a b : Int) : IntKind.u64.wrap (IntKind.u64.wrap a + b) = IntKind.u64.wrap (a + b) := by unfold IntKind.wrap; simp [IntKind.bits, IntKind.signed]
theorem u64_wrap_sub (a b : Int) : IntKind.u64.wrap (IntKind.u64.wrap a - b) = IntKind.u64.wrap (a - b) := by unfold IntKind.wrap; simp [IntKind.bits, IntKind.signed]
theorem u64_same {a : Int} (h0 : 0 ≤ a) (h1 : a < 18446744073709551616) : IntKind.u64.wrap a = a := by unfold IntKind.wrap; simp [IntKind.bits, IntKind.signed]; omega
end
end Go.Proofs.Qxb6500847aGreatDoor.Os
