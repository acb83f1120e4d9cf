/-
  The object store in memory: frames, the arena's block.
-/
import Derived.Test.Qxb6500847aGreatDoorFloorE
import Derived.Deep.Draws
namespace Go.Proofs.Qxb6500847aGreatDoor.Os
open Go.RowKit FloorA
set_option maxRecDepth 100000

/-- As 'Below', but the blocks of X may have turned. -/
structure Ext (B : Nat) (X : Nat → Prop) (w w' : World) : Prop where
  os : w'.os = w.os
  tape : w'.tape = w.tape
  output : w'.output = w.output
  size : w.heap.size ≤ w'.heap.size
  block : ∀ k, k < B → ¬ X k → w'.heap[k]? = w.heap[k]?
theorem Ext.refl (B : Nat) (X : Nat → Prop) (w : World) : Ext B X w w := ⟨rfl, rfl, rfl, Nat.le_refl _, fun _ _ _ => rfl⟩
theorem Ext.of_below {B : Nat} {w w' : World} (h : Below B w w') (X : Nat → Prop) : Ext B X w w' := ⟨h.os, h.tape, h.output, h.size, fun k hk _ => h.block k hk⟩
theorem Ext.below' {B B' : Nat} {X : Nat → Prop} {w w' : World} (h : Ext B X w w') (hB : B' ≤ B) (hX : ∀ k, k < B' → ¬ X k) : Below B' w w' :=
  ⟨h.os, h.tape, h.output, h.size, fun k hk => h.block k (Nat.lt_of_lt_of_le hk hB) (hX k hk)⟩
theorem Ext.trans {B B' : Nat} {X Y : Nat → Prop} {a b c : World} (h : Ext B X a b) (k : Ext B' Y b c) (hB : B ≤ B') (hY : ∀ i, i < B → Y i → X i) : Ext B X a c :=
  ⟨k.os.trans h.os, k.tape.trans h.tape, k.output.trans h.output, Nat.le_trans h.size k.size,
    fun i hi hx => (k.block i (Nat.lt_of_lt_of_le hi hB) (fun y => hx (hY i hi y))).trans (h.block i hi hx)⟩
theorem Ext.mono {B B' : Nat} {X Y : Nat → Prop} {w w' : World} (h : Ext B X w w') (hB : B' ≤ B) (hX : ∀ i, i < B' → X i → Y i) : Ext B' Y w w' :=
  ⟨h.os, h.tape, h.output, h.size, fun k hk hy => h.block k (Nat.lt_of_lt_of_le hk hB) (fun x => hy (hX k hk x))⟩
theorem Ext.andThen {B B' : Nat} {X : Nat → Prop} {a b c : World} (h : Ext B X a b) (k : Below B' b c) (hB : B ≤ B') : Ext B X a c :=
  h.trans (Ext.of_below k X) hB (fun _ _ x => x)
theorem Ext.setCell {B : Nat} {X : Nat → Prop} {a w : World} (h : Ext B X a w) {p : Addr} (hp : B ≤ p.block ∨ X p.block) (u : Value) : Ext B X a (w.setCell p u) :=
  h.trans (B' := B) (Y := fun k => k = p.block) ⟨rfl, rfl, rfl, by simp [World.setCell], fun k _ hk => Below.heap_setCell _ _ _ _ hk⟩ (Nat.le_refl _)
    (fun i hi e => by rcases hp with hp | hp; · omega
                      · rw [e]; exact hp)
theorem Ext.cell {B : Nat} {X : Nat → Prop} {w w' : World} (h : Ext B X w w') {p : Addr} (hp : p.block < B) (hx : ¬ X p.block) : w'.cell? p = w.cell? p := World.cell?_of_block (w := w) (h.block p.block hp hx)


/-- A header. -/
structure Hd where
  gen : Int
  typ : Int
  row : Int
  par : Int
  prv : Int
  nxt : Int
  bas : Int
  siz : Int
structure Rg where
  fst : Int
  lst : Int
  kds : Int
  top : Int
/-- What the arena's block holds. -/
structure Av where
  hd : Nat → Hd
  idl : Nat → Nat
  rg : Nat → Rg
  rts : Nat → Int
  nrt : Int
  lv : Nat → Int
  c0 : Int
  c1 : Int
  c2 : Int
  c3 : Int
  tr : Nat → Value
  ti : Nat → Value

def hdC (h : Hd) : Nat → Value
  | 0 => .int .u32 h.gen
  | 1 => .int .u8 h.typ
  | 2 => .int .u16 h.row
  | 3 => .int .u16 h.par
  | 4 => .int .u16 h.prv
  | 5 => .int .u16 h.nxt
  | 6 => .int .u64 h.bas
  | _ => .int .u64 h.siz
def rgC (r : Rg) : Nat → Value
  | 0 => .int .u16 r.fst
  | 1 => .int .u16 r.lst
  | 2 => .int .i64 r.kds
  | _ => .int .u64 r.top
def memOf (s : Av) (o : Nat) : Value :=
  if o < 2560 then hdC (s.hd (o / 8)) (o % 8)
  else if o < 2565 then .int .u64 (s.idl (o - 2560) : Int)
  else if o < 2821 then rgC (s.rg ((o - 2565) / 4)) ((o - 2565) % 4)
  else if o < 2885 then .int .u16 (s.rts (o - 2821))
  else if o < 2886 then .int .i64 s.nrt
  else if o < 2898 then (if (o - 2886) % 2 = 0 then s.tr ((o - 2886) / 2) else s.ti ((o - 2886) / 2))
  else if o < 2906 then .int .i64 (s.lv (o - 2898))
  else if o = 2906 then .int .i64 s.c0
  else if o = 2907 then .int .i64 s.c1
  else if o = 2908 then .int .u64 s.c2
  else .int .u64 s.c3
structure Am (w : World) (A : Nat) (s : Av) : Prop where
  cell : ∀ o, o < 2910 → w.cell? ⟨A, o, none⟩ = some (memOf s o)
  free : ∀ o, w.frozen? ⟨A, o, none⟩ = false

def Av.setHd (s : Av) (i : Nat) (h : Hd) : Av := { s with hd := fun j => if j = i then h else s.hd j }
def Av.setRg (s : Av) (i : Nat) (h : Rg) : Av := { s with rg := fun j => if j = i then h else s.rg j }
def Av.setIdl (s : Av) (i : Nat) (x : Nat) : Av := { s with idl := fun j => if j = i then x else s.idl j }
def Av.setRts (s : Av) (i : Nat) (x : Int) : Av := { s with rts := fun j => if j = i then x else s.rts j }
def Av.setLv (s : Av) (i : Nat) (x : Int) : Av := { s with lv := fun j => if j = i then x else s.lv j }
def Av.setTi (s : Av) (i : Nat) (x : Value) : Av := { s with ti := fun j => if j = i then x else s.ti j }

section
variable {w w' : World} {A : Nat} {s : Av}
theorem mem_hd (s : Av) {i f : Nat} (hi : i < 320) (hf : f < 8) : memOf s (i * 8 + f) = hdC (s.hd i) f := by
  unfold memOf
  rw [if_pos (by omega), show (i * 8 + f) / 8 = i by omega, show (i * 8 + f) % 8 = f by omega]
theorem mem_rg (s : Av) {i f : Nat} (hi : i < 64) (hf : f < 4) : memOf s (2565 + i * 4 + f) = rgC (s.rg i) f := by
  unfold memOf
  rw [if_neg (by omega), if_neg (by omega), if_pos (by omega), show (2565 + i * 4 + f - 2565) / 4 = i by omega, show (2565 + i * 4 + f - 2565) % 4 = f by omega]
theorem mem_idl (s : Av) {i : Nat} (hi : i < 5) : memOf s (2560 + i) = .int .u64 (s.idl i : Int) := by
  unfold memOf
  rw [if_neg (by omega), if_pos (by omega), show 2560 + i - 2560 = i by omega]
theorem mem_rts (s : Av) {i : Nat} (hi : i < 64) : memOf s (2821 + i) = .int .u16 (s.rts i) := by
  unfold memOf
  rw [if_neg (by omega), if_neg (by omega), if_neg (by omega), if_pos (by omega), show 2821 + i - 2821 = i by omega]
theorem mem_nrt (s : Av) : memOf s 2885 = .int .i64 s.nrt := by
  unfold memOf
  rw [if_neg (by omega), if_neg (by omega), if_neg (by omega), if_neg (by omega), if_pos (by omega)]
theorem mem_tr (s : Av) {i : Nat} (hi : i < 6) : memOf s (2886 + i * 2) = s.tr i := by
  unfold memOf
  rw [if_neg (by omega), if_neg (by omega), if_neg (by omega), if_neg (by omega), if_neg (by omega), if_pos (by omega), if_pos (by omega), show (2886 + i * 2 - 2886) / 2 = i by omega]
theorem mem_ti (s : Av) {i : Nat} (hi : i < 6) : memOf s (2886 + i * 2 + 1) = s.ti i := by
  unfold memOf
  rw [if_neg (by omega), if_neg (by omega), if_neg (by omega), if_neg (by omega), if_neg (by omega), if_pos (by omega), if_neg (by omega), show (2886 + i * 2 + 1 - 2886) / 2 = i by omega]
theorem mem_lv (s : Av) {i : Nat} (hi : i < 8) : memOf s (2898 + i) = .int .i64 (s.lv i) := by
  unfold memOf
  rw [if_neg (by omega), if_neg (by omega), if_neg (by omega), if_neg (by omega), if_neg (by omega), if_neg (by omega), if_pos (by omega), show 2898 + i - 2898 = i by omega]
theorem mem_c (s : Av) : memOf s 2906 = .int .i64 s.c0 ∧ memOf s 2907 = .int .i64 s.c1 ∧ memOf s 2908 = .int .u64 s.c2 ∧ memOf s 2909 = .int .u64 s.c3 := by
  refine ⟨?_, ?_, ?_, ?_⟩ <;> simp [memOf]

/-- One cell turns. -/
theorem Am.set {s' : Av} {o : Nat} {v : Value} (h : Am w A s) (ho : o < 2910) (hv : memOf s' o = v) (hs : ∀ p, p < 2910 → p ≠ o → memOf s' p = memOf s p) : Am (w.setCell ⟨A, o, none⟩ v) A s' := by
  refine ⟨fun p hp => ?_, fun p => by rw [World.frozen?_setCell]; exact h.free p⟩
  by_cases e : p = o
  · subst e
    rw [set_same (h.cell p hp), hv]
  · rw [set_other (fun q => e (by injection q with _ q; exact q.symm)), h.cell p hp, hs p hp e]
theorem Am.setHd {i f : Nat} {v : Value} {hh : Hd} (h : Am w A s) (hi : i < 320) (hf : f < 8) (hv : hdC hh f = v) (hs : ∀ g, g < 8 → g ≠ f → hdC hh g = hdC (s.hd i) g) : Am (w.setCell ⟨A, i * 8 + f, none⟩ v) A (s.setHd i hh) := by
  refine h.set (by omega) ?_ (fun p hp hne => ?_)
  · rw [mem_hd _ hi hf]
    simp [Av.setHd, hv]
  · by_cases hl : p < 2560
    · have e : p = p / 8 * 8 + p % 8 := by omega
      rw [e, mem_hd _ (by omega) (by omega), mem_hd _ (by omega) (by omega)]
      by_cases q : p / 8 = i
      · simp only [Av.setHd, q, if_true]
        exact hs _ (by omega) (by omega)
      · simp [Av.setHd, q]
    · simp [memOf, hl, Av.setHd]
theorem Am.setRg {i f : Nat} {v : Value} {hh : Rg} (h : Am w A s) (hi : i < 64) (hf : f < 4) (hv : rgC hh f = v) (hs : ∀ g, g < 4 → g ≠ f → rgC hh g = rgC (s.rg i) g) : Am (w.setCell ⟨A, 2565 + i * 4 + f, none⟩ v) A (s.setRg i hh) := by
  refine h.set (by omega) ?_ (fun p hp hne => ?_)
  · rw [mem_rg _ hi hf]
    simp [Av.setRg, hv]
  · by_cases hl : 2565 ≤ p ∧ p < 2821
    · have e : p = 2565 + (p - 2565) / 4 * 4 + (p - 2565) % 4 := by omega
      rw [e, mem_rg _ (by omega) (by omega), mem_rg _ (by omega) (by omega)]
      by_cases q : (p - 2565) / 4 = i
      · simp only [Av.setRg, q, if_true]
        exact hs _ (by omega) (by omega)
      · simp [Av.setRg, q]
    · by_cases a1 : p < 2560
      · simp [memOf, a1, Av.setRg]
      · by_cases a2 : p < 2565
        · simp [memOf, a1, a2, Av.setRg]
        · have a3 : ¬ p < 2821 := by omega
          simp [memOf, a1, a2, a3, Av.setRg]
theorem Am.setIdl {i : Nat} (x : Nat) (h : Am w A s) (hi : i < 5) : Am (w.setCell ⟨A, 2560 + i, none⟩ (.int .u64 (x : Int))) A (s.setIdl i x) := by
  refine h.set (by omega) (by rw [mem_idl _ hi]; simp [Av.setIdl]) (fun p hp hne => ?_)
  by_cases a1 : p < 2560
  · simp [memOf, a1, Av.setIdl]
  · by_cases a2 : p < 2565
    · have : p - 2560 ≠ i := by omega
      simp [memOf, a1, a2, Av.setIdl, this]
    · simp [memOf, a1, a2, Av.setIdl]
theorem Am.setRts {i : Nat} (x : Int) (h : Am w A s) (hi : i < 64) : Am (w.setCell ⟨A, 2821 + i, none⟩ (.int .u16 x)) A (s.setRts i x) := by
  refine h.set (by omega) (by rw [mem_rts _ hi]; simp [Av.setRts]) (fun p hp hne => ?_)
  unfold memOf
  by_cases a : 2821 ≤ p ∧ p < 2885
  · have : p - 2821 ≠ i := by omega
    rw [if_neg (by omega), if_neg (by omega), if_neg (by omega), if_pos (by omega), if_neg (by omega), if_neg (by omega), if_neg (by omega), if_pos (by omega)]
    simp [Av.setRts, this]
  · by_cases a1 : p < 2821
    · by_cases b1 : p < 2560
      · simp [b1, Av.setRts]
      · by_cases b2 : p < 2565
        · simp [b1, b2, Av.setRts]
        · simp [b1, b2, a1, Av.setRts]
    · have a2 : ¬ p < 2885 := by omega
      have b1 : ¬ p < 2560 := by omega
      have b2 : ¬ p < 2565 := by omega
      simp [b1, b2, a1, a2, Av.setRts]
theorem Am.setNrt (x : Int) (h : Am w A s) : Am (w.setCell ⟨A, 2885, none⟩ (.int .i64 x)) A { s with nrt := x } := by
  refine h.set (by omega) (by rw [mem_nrt]) (fun p hp hne => ?_)
  unfold memOf
  have : ¬ (2885 ≤ p ∧ p < 2886) := by omega
  by_cases a1 : p < 2560
  · simp [a1]
  · by_cases a2 : p < 2565
    · simp [a1, a2]
    · by_cases a3 : p < 2821
      · simp [a1, a2, a3]
      · by_cases a4 : p < 2885
        · simp [a1, a2, a3, a4]
        · have a5 : ¬ p < 2886 := by omega
          simp [a1, a2, a3, a4, a5]
theorem mem_hi {p : Nat} (h : 2886 ≤ p) : memOf s p = if p < 2898 then (if (p - 2886) % 2 = 0 then s.tr ((p - 2886) / 2) else s.ti ((p - 2886) / 2)) else if p < 2906 then .int .i64 (s.lv (p - 2898)) else if p = 2906 then .int .i64 s.c0 else if p = 2907 then .int .i64 s.c1 else if p = 2908 then .int .u64 s.c2 else .int .u64 s.c3 := by
  unfold memOf
  rw [if_neg (by omega), if_neg (by omega), if_neg (by omega), if_neg (by omega), if_neg (by omega)]
theorem mem_lo (s s' : Av) (h1 : s'.hd = s.hd) (h2 : s'.idl = s.idl) (h3 : s'.rg = s.rg) (h4 : s'.rts = s.rts) (h5 : s'.nrt = s.nrt) {p : Nat} (h : p < 2886) : memOf s' p = memOf s p := by
  unfold memOf
  rw [h1, h2, h3, h4, h5]
  simp only [h, if_true]
theorem Am.setLv {i : Nat} (x : Int) (h : Am w A s) (hi : i < 8) : Am (w.setCell ⟨A, 2898 + i, none⟩ (.int .i64 x)) A (s.setLv i x) := by
  refine h.set (by omega) (by rw [mem_lv _ hi]; simp [Av.setLv]) (fun p hp hne => ?_)
  by_cases a : p < 2886
  · exact mem_lo s (s.setLv i x) rfl rfl rfl rfl rfl a
  · rw [mem_hi (by omega), mem_hi (by omega)]
    by_cases b : p < 2898
    · simp [b, Av.setLv]
    · by_cases c : p < 2906
      · have : p - 2898 ≠ i := by omega
        simp [b, c, Av.setLv, this]
      · simp [b, c, Av.setLv]
theorem Am.setTi {i : Nat} (x : Value) (h : Am w A s) (hi : i < 6) : Am (w.setCell ⟨A, 2886 + i * 2 + 1, none⟩ x) A (s.setTi i x) := by
  refine h.set (by omega) (by rw [mem_ti _ hi]; simp [Av.setTi]) (fun p hp hne => ?_)
  by_cases a : p < 2886
  · exact mem_lo s (s.setTi i x) rfl rfl rfl rfl rfl a
  · rw [mem_hi (by omega), mem_hi (by omega)]
    by_cases b : p < 2898
    · by_cases c : (p - 2886) % 2 = 0
      · simp [b, c, Av.setTi]
      · have : (p - 2886) / 2 ≠ i := by omega
        simp [b, c, Av.setTi, this]
    · simp [b, Av.setTi]
theorem Am.setC0 (x : Int) (h : Am w A s) : Am (w.setCell ⟨A, 2906, none⟩ (.int .i64 x)) A { s with c0 := x } := by
  refine h.set (by omega) (by rw [(mem_c _).1]) (fun p hp hne => ?_)
  by_cases a : p < 2886
  · exact mem_lo s ({ s with c0 := x }) rfl rfl rfl rfl rfl a
  · rw [mem_hi (by omega), mem_hi (by omega)]
    simp [hne]
theorem Am.setC1 (x : Int) (h : Am w A s) : Am (w.setCell ⟨A, 2907, none⟩ (.int .i64 x)) A { s with c1 := x } := by
  refine h.set (by omega) (by rw [(mem_c _).2.1]) (fun p hp hne => ?_)
  by_cases a : p < 2886
  · exact mem_lo s ({ s with c1 := x }) rfl rfl rfl rfl rfl a
  · rw [mem_hi (by omega), mem_hi (by omega)]
    simp [hne]
theorem Am.setC2 (x : Int) (h : Am w A s) : Am (w.setCell ⟨A, 2908, none⟩ (.int .u64 x)) A { s with c2 := x } := by
  refine h.set (by omega) (by rw [(mem_c _).2.2.1]) (fun p hp hne => ?_)
  by_cases a : p < 2886
  · exact mem_lo s ({ s with c2 := x }) rfl rfl rfl rfl rfl a
  · rw [mem_hi (by omega), mem_hi (by omega)]
    simp [hne]
theorem Am.setC3 (x : Int) (h : Am w A s) : Am (w.setCell ⟨A, 2909, none⟩ (.int .u64 x)) A { s with c3 := x } := by
  refine h.set (by omega) (by rw [(mem_c _).2.2.2]) (fun p hp hne => ?_)
  by_cases a : p < 2886
  · exact mem_lo s ({ s with c3 := x }) rfl rfl rfl rfl rfl a
  · rw [mem_hi (by omega), mem_hi (by omega)]
    have : ¬ p = 2909 := hne
    by_cases b : p < 2898
    · simp [b]
    · by_cases c : p < 2906
      · simp [b, c]
      · have : p = 2906 ∨ p = 2907 ∨ p = 2908 := by omega
        rcases this with rfl | rfl | rfl <;> simp
/-- The block stays while others turn. -/
theorem Am.ext {T : Nat → Prop} (h : Am w A s) (e : Ext w.heap.size T w w') (hT : ¬ T A) : Am w' A s := by
  have la : A < w.heap.size := cell_lt (h.cell 0 (by omega))
  refine ⟨fun o ho => (e.cell (p := ⟨A, o, none⟩) la hT).trans (h.cell o ho), fun o => ?_⟩
  have := h.free o
  unfold World.frozen? at this ⊢
  rw [show w'.heap[(⟨A, o, none⟩ : Addr).block]? = w.heap[(⟨A, o, none⟩ : Addr).block]? from e.block A la hT]
  exact this
theorem Am.below (h : Am w A s) (k : Below w.heap.size w w') : Am w' A s := h.ext (Ext.of_below k (fun _ => False)) id
end
end Go.Proofs.Qxb6500847aGreatDoor.Os
