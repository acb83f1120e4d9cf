/-
  Arena.Equal on any two arenas: the regions.
-/
import Derived.Test.Qxb6500847aGreatDoorOxEk
import Derived.Test.Qxb6500847aGreatDoorEqB
namespace Go.Proofs.Qxb6500847aGreatDoor.Os
open Go.RowKit FloorA
set_option maxRecDepth 100000
section
variable {P : Program} {ops : Array Oper} {C : World → Prop} {Q : Act → Prop} {a : Act} {o : Oper} {rest : List Oper}
theorem quiet_eql_row2 (hgd : o.guard = none) (ty ty2 : TypeId) (x y : Operand) (ho : o.op = .binOp .eql ty x y ty2) (row row2 : Array Value) (qb : Bool) (hx : a.eval x = .agg row) (hy : a.eval y = .agg row2) (hg : P.eqGuardType P.depth ty = false) (hl : ∀ w, (Op.equalIn 10000 ty (.agg row) (.agg row2)).run P w = .ok qb w) (h : wpQuiet P ops C Q rest (a.put o.dst (.bool qb))) : wpQuiet P ops C Q (o :: rest) a := by
  have hw : Region.wanted o (yielded ops a.tmps) = true := by simp [Region.wanted, hgd]
  show if Region.wanted o (yielded ops a.tmps) then _ else _
  rw [if_pos hw]
  refine ⟨.bool qb, fun w hC => ?_, h⟩
  unfold Oper.quietAt execOp
  simp only [ho, hx, hy, Sem.run_bind, run_eqGuard_agg _ _ _ _ _ _ _ hg, Result.andThen_ok, run_eql_struct, hl w, Sem.run_pure]
  exact ⟨rfl, rfl⟩
end
set_option maxHeartbeats 4000000 in
theorem rega0 {Q : Exit → Act → World → Prop} {A A2 j r r2 R R2 : Nat} {row row2 : Array Value} {qb : Bool} {w : World} {c2 c3 c4 c5 c6 c7 c8 c11 c12 c13 c14 c15 c16 c17 c18 c19 c20 c21 c22 c23 c24 c25 c26 c27 c28 c29 c30 c31 c32 c33 c34 c35 c36 c37 c38 c39 c40 c41 c42 c43 c44 c45 c46 c47 c48 c49 c50 c51 c52 c53 c54 c55 c56 c57 c58 c59 c60 c61 c62 c63 c64 c65 c66 c67 c68 c69 c70 c71 c72 c73 c74 c75 c76 c77 c78 c79 c80 c81 c82 c83 c84 c85 c86 c87 c88 c89 c90 c91 c92 c93 c94 c95 c96 c97 c98 c99 c100 c101 c102 c103 c104 c105 c106 c107 c108 c109 c110 c111 c112 c113 c114 c115 c116 c117 c118 c119 c120 c121 c122 c123 c124 c125 c126 c127 c128 c129 c130 c131 c132 c133 c134 c135 c136 c137 c138 c139 c140 c141 c142 c143 c144 c145 c146 c147 c148 c149 c150 c151 c152 c153 c154 c155 c156 c157 c158 c159 c160 c161 c162 c163 c164 c165 c166 c167 c168 c169 c170 c171 c172 c173 c174 c175 c176 c177 c178 c179 c180 c181 c182 c183 c184 c185 c186 c187 c188 c189 c190 c191 c192 c193 c194 c195 c196 c197 c198 c199 c200 c201 c202 c203 c204 c205 c206 c207 c208 c209 c210 c211 c212 c213 c214 c215 c216 c217 c218 c219 c220 c221 c222 c223 c224 c225 c226 c227 c228 c229 c230 c231 c232 c233 c234 c235 c236 : Value}
    (ar : w.cell? ⟨A, j * 8 + 2, none⟩ = some (.int .u16 (r : Int))) (br : w.cell? ⟨A2, j * 8 + 2, none⟩ = some (.int .u16 (r2 : Int)))
    (h1 : ∀ wq, Below w.heap.size w wq → Calls Tryz.prog 110 #[.pointer (some ⟨A, 2886, none⟩), .int .u16 (r : Int)] wq fun e w' => e = .returned (.pointer (some ⟨R, r * nC 0, none⟩)) ∧ w' = wq)
    (h2 : ∀ wq, Below w.heap.size w wq → Calls Tryz.prog 110 #[.pointer (some ⟨A2, 2886, none⟩), .int .u16 (r2 : Int)] wq fun e w' => e = .returned (.pointer (some ⟨R2, r2 * nC 0, none⟩)) ∧ w' = wq)
    (l1 : ∀ wq, (∃ nn, wq = w.drewN nn) → (loadVar 101 ⟨R, r * nC 0, none⟩).run Tryz.prog wq = .ok (.agg row) wq) (l2 : ∀ wq, (∃ nn, wq = w.drewN nn) → (loadVar 101 ⟨R2, r2 * nC 0, none⟩).run Tryz.prog wq = .ok (.agg row2) wq)
    (hgt : (Tryz.prog).eqGuardType (Tryz.prog).depth 101 = false) (heq : ∀ w, (Op.equalIn 10000 101 (.agg row) (.agg row2)).run Tryz.prog w = .ok qb w)
    (h : ∀ (x99 x100 x101 x102 x103 x104 x105 x106 x107 x108 x109 x110 x111 x112 x113 x114 x115 x116 x117 x118 x119 : Value) (nq : Nat), Q .normal ⟨#[.pointer (some ⟨A, 0, none⟩), .pointer (some ⟨A2, 0, none⟩), c2, c3, c4, c5, c6, c7, c8, .pointer (some ⟨A, j * 8, none⟩), .pointer (some ⟨A2, j * 8, none⟩), .bool qb, c12, c13, c14, c15, c16, c17, c18, c19, c20, c21, c22, c23, c24, c25, c26, c27, c28, c29, c30, c31, c32, c33, c34, c35, c36, c37, c38, c39, c40, c41, c42, c43, c44, c45, c46, c47, c48, c49, c50, c51, c52, c53, c54, c55, c56, c57, c58, c59, c60, c61, c62, c63, c64, c65, c66, c67, c68, c69, c70, c71, c72, c73, c74, c75, c76, c77, c78, c79, c80, c81, c82, c83, c84, c85, c86, c87, c88, c89, c90, c91, c92, c93, c94, c95, c96, c97, c98, x99, x100, x101, x102, x103, x104, x105, x106, x107, x108, x109, x110, x111, x112, x113, x114, x115, x116, x117, x118, x119, c120, c121, c122, c123, c124, c125, c126, c127, c128, c129, c130, c131, c132, c133, c134, c135, c136, c137, c138, c139, c140, c141, c142, c143, c144, c145, c146, c147, c148, c149, c150, c151, c152, c153, c154, c155, c156, c157, c158, c159, c160, c161, c162, c163, c164, c165, c166, c167, c168, c169, c170, c171, c172, c173, c174, c175, c176, c177, c178, c179, c180, c181, c182, c183, c184, c185, c186, c187, c188, c189, c190, c191, c192, c193, c194, c195, c196, c197, c198, c199, c200, c201, c202, c203, c204, c205, c206, c207, c208, c209, c210, c211, c212, c213, c214, c215, c216, c217, c218, c219, c220, c221, c222, c223, c224, c225, c226, c227, c228, c229, c230, c231, c232, c233, c234, c235, c236], []⟩ (w.drewN nq)) :
    (rgE 15).wp Tryz.prog Q ⟨#[.pointer (some ⟨A, 0, none⟩), .pointer (some ⟨A2, 0, none⟩), c2, c3, c4, c5, c6, c7, c8, .pointer (some ⟨A, j * 8, none⟩), .pointer (some ⟨A2, j * 8, none⟩), c11, c12, c13, c14, c15, c16, c17, c18, c19, c20, c21, c22, c23, c24, c25, c26, c27, c28, c29, c30, c31, c32, c33, c34, c35, c36, c37, c38, c39, c40, c41, c42, c43, c44, c45, c46, c47, c48, c49, c50, c51, c52, c53, c54, c55, c56, c57, c58, c59, c60, c61, c62, c63, c64, c65, c66, c67, c68, c69, c70, c71, c72, c73, c74, c75, c76, c77, c78, c79, c80, c81, c82, c83, c84, c85, c86, c87, c88, c89, c90, c91, c92, c93, c94, c95, c96, c97, c98, c99, c100, c101, c102, c103, c104, c105, c106, c107, c108, c109, c110, c111, c112, c113, c114, c115, c116, c117, c118, c119, c120, c121, c122, c123, c124, c125, c126, c127, c128, c129, c130, c131, c132, c133, c134, c135, c136, c137, c138, c139, c140, c141, c142, c143, c144, c145, c146, c147, c148, c149, c150, c151, c152, c153, c154, c155, c156, c157, c158, c159, c160, c161, c162, c163, c164, c165, c166, c167, c168, c169, c170, c171, c172, c173, c174, c175, c176, c177, c178, c179, c180, c181, c182, c183, c184, c185, c186, c187, c188, c189, c190, c191, c192, c193, c194, c195, c196, c197, c198, c199, c200, c201, c202, c203, c204, c205, c206, c207, c208, c209, c210, c211, c212, c213, c214, c215, c216, c217, c218, c219, c220, c221, c222, c223, c224, c225, c226, c227, c228, c229, c230, c231, c232, c233, c234, c235, c236], []⟩ w := by
  have HA1 := hideIt h1
  have HA2 := hideIt h2
  have HL1 := hideIt l1
  have HL2 := hideIt l2
  have HGT := hideIt hgt
  have HEQ := hideIt heq
  have HH := hideIt h
  clear h1 h2 l1 l2 hgt heq h
  conv => arg 2; whnf
  refine wp_region_quiet_lit (by kernel_rfl) (by kernel_rfl) ?_
  iterate 7 (quiet_step (fail))
  quiet_step (exact Calls.quiet_of_same (HA1.out _ (below_dn' _ _)))
  quiet_step (fail)
  refine quiet_load_row rfl 101 (.tmp 107) rfl R (r * nC 0) rfl row HL1.out ?_
  iterate 7 (quiet_step (fail))
  quiet_step (exact Calls.quiet_of_same (HA2.out _ (below_dn' _ _)))
  quiet_step (fail)
  refine quiet_load_row rfl 101 (.tmp 117) rfl R2 (r2 * nC 0) rfl row2 HL2.out ?_
  refine quiet_eql_row2 rfl 101 101 (.tmp 108) (.tmp 118) rfl row row2 qb rfl rfl HGT.out HEQ.out ?_
  quiet_step (fail)
  refine wpQuiet_nil ?_
  intro _ hw'
  obtain ⟨nq, hw''⟩ := hw'
  subst hw''
  exact HH.out _ _ _ _ _ _ _ _ _ _ _ _ _ _ _ _ _ _ _ _ _ nq
set_option maxHeartbeats 4000000 in
theorem rega1 {Q : Exit → Act → World → Prop} {A A2 j r r2 R R2 : Nat} {row row2 : Array Value} {qb : Bool} {w : World} {c2 c3 c4 c5 c6 c7 c8 c11 c12 c13 c14 c15 c16 c17 c18 c19 c20 c21 c22 c23 c24 c25 c26 c27 c28 c29 c30 c31 c32 c33 c34 c35 c36 c37 c38 c39 c40 c41 c42 c43 c44 c45 c46 c47 c48 c49 c50 c51 c52 c53 c54 c55 c56 c57 c58 c59 c60 c61 c62 c63 c64 c65 c66 c67 c68 c69 c70 c71 c72 c73 c74 c75 c76 c77 c78 c79 c80 c81 c82 c83 c84 c85 c86 c87 c88 c89 c90 c91 c92 c93 c94 c95 c96 c97 c98 c99 c100 c101 c102 c103 c104 c105 c106 c107 c108 c109 c110 c111 c112 c113 c114 c115 c116 c117 c118 c119 c120 c121 c122 c123 c124 c125 c126 c127 c128 c129 c130 c131 c132 c133 c134 c135 c136 c137 c138 c139 c140 c141 c142 c143 c144 c145 c146 c147 c148 c149 c150 c151 c152 c153 c154 c155 c156 c157 c158 c159 c160 c161 c162 c163 c164 c165 c166 c167 c168 c169 c170 c171 c172 c173 c174 c175 c176 c177 c178 c179 c180 c181 c182 c183 c184 c185 c186 c187 c188 c189 c190 c191 c192 c193 c194 c195 c196 c197 c198 c199 c200 c201 c202 c203 c204 c205 c206 c207 c208 c209 c210 c211 c212 c213 c214 c215 c216 c217 c218 c219 c220 c221 c222 c223 c224 c225 c226 c227 c228 c229 c230 c231 c232 c233 c234 c235 c236 : Value}
    (ar : w.cell? ⟨A, j * 8 + 2, none⟩ = some (.int .u16 (r : Int))) (br : w.cell? ⟨A2, j * 8 + 2, none⟩ = some (.int .u16 (r2 : Int)))
    (h1 : ∀ wq, Below w.heap.size w wq → Calls Tryz.prog 111 #[.pointer (some ⟨A, 2888, none⟩), .int .u16 (r : Int)] wq fun e w' => e = .returned (.pointer (some ⟨R, r * nC 1, none⟩)) ∧ w' = wq)
    (h2 : ∀ wq, Below w.heap.size w wq → Calls Tryz.prog 111 #[.pointer (some ⟨A2, 2888, none⟩), .int .u16 (r2 : Int)] wq fun e w' => e = .returned (.pointer (some ⟨R2, r2 * nC 1, none⟩)) ∧ w' = wq)
    (l1 : ∀ wq, (∃ nn, wq = w.drewN nn) → (loadVar 109 ⟨R, r * nC 1, none⟩).run Tryz.prog wq = .ok (.agg row) wq) (l2 : ∀ wq, (∃ nn, wq = w.drewN nn) → (loadVar 109 ⟨R2, r2 * nC 1, none⟩).run Tryz.prog wq = .ok (.agg row2) wq)
    (hgt : (Tryz.prog).eqGuardType (Tryz.prog).depth 109 = false) (heq : ∀ w, (Op.equalIn 10000 109 (.agg row) (.agg row2)).run Tryz.prog w = .ok qb w)
    (h : ∀ (x122 x123 x124 x125 x126 x127 x128 x129 x130 x131 x132 x133 x134 x135 x136 x137 x138 x139 x140 x141 x142 : Value) (nq : Nat), Q .normal ⟨#[.pointer (some ⟨A, 0, none⟩), .pointer (some ⟨A2, 0, none⟩), c2, c3, c4, c5, c6, c7, c8, .pointer (some ⟨A, j * 8, none⟩), .pointer (some ⟨A2, j * 8, none⟩), .bool qb, c12, c13, c14, c15, c16, c17, c18, c19, c20, c21, c22, c23, c24, c25, c26, c27, c28, c29, c30, c31, c32, c33, c34, c35, c36, c37, c38, c39, c40, c41, c42, c43, c44, c45, c46, c47, c48, c49, c50, c51, c52, c53, c54, c55, c56, c57, c58, c59, c60, c61, c62, c63, c64, c65, c66, c67, c68, c69, c70, c71, c72, c73, c74, c75, c76, c77, c78, c79, c80, c81, c82, c83, c84, c85, c86, c87, c88, c89, c90, c91, c92, c93, c94, c95, c96, c97, c98, c99, c100, c101, c102, c103, c104, c105, c106, c107, c108, c109, c110, c111, c112, c113, c114, c115, c116, c117, c118, c119, c120, c121, x122, x123, x124, x125, x126, x127, x128, x129, x130, x131, x132, x133, x134, x135, x136, x137, x138, x139, x140, x141, x142, c143, c144, c145, c146, c147, c148, c149, c150, c151, c152, c153, c154, c155, c156, c157, c158, c159, c160, c161, c162, c163, c164, c165, c166, c167, c168, c169, c170, c171, c172, c173, c174, c175, c176, c177, c178, c179, c180, c181, c182, c183, c184, c185, c186, c187, c188, c189, c190, c191, c192, c193, c194, c195, c196, c197, c198, c199, c200, c201, c202, c203, c204, c205, c206, c207, c208, c209, c210, c211, c212, c213, c214, c215, c216, c217, c218, c219, c220, c221, c222, c223, c224, c225, c226, c227, c228, c229, c230, c231, c232, c233, c234, c235, c236], []⟩ (w.drewN nq)) :
    (rgE 17).wp Tryz.prog Q ⟨#[.pointer (some ⟨A, 0, none⟩), .pointer (some ⟨A2, 0, none⟩), c2, c3, c4, c5, c6, c7, c8, .pointer (some ⟨A, j * 8, none⟩), .pointer (some ⟨A2, j * 8, none⟩), c11, c12, c13, c14, c15, c16, c17, c18, c19, c20, c21, c22, c23, c24, c25, c26, c27, c28, c29, c30, c31, c32, c33, c34, c35, c36, c37, c38, c39, c40, c41, c42, c43, c44, c45, c46, c47, c48, c49, c50, c51, c52, c53, c54, c55, c56, c57, c58, c59, c60, c61, c62, c63, c64, c65, c66, c67, c68, c69, c70, c71, c72, c73, c74, c75, c76, c77, c78, c79, c80, c81, c82, c83, c84, c85, c86, c87, c88, c89, c90, c91, c92, c93, c94, c95, c96, c97, c98, c99, c100, c101, c102, c103, c104, c105, c106, c107, c108, c109, c110, c111, c112, c113, c114, c115, c116, c117, c118, c119, c120, c121, c122, c123, c124, c125, c126, c127, c128, c129, c130, c131, c132, c133, c134, c135, c136, c137, c138, c139, c140, c141, c142, c143, c144, c145, c146, c147, c148, c149, c150, c151, c152, c153, c154, c155, c156, c157, c158, c159, c160, c161, c162, c163, c164, c165, c166, c167, c168, c169, c170, c171, c172, c173, c174, c175, c176, c177, c178, c179, c180, c181, c182, c183, c184, c185, c186, c187, c188, c189, c190, c191, c192, c193, c194, c195, c196, c197, c198, c199, c200, c201, c202, c203, c204, c205, c206, c207, c208, c209, c210, c211, c212, c213, c214, c215, c216, c217, c218, c219, c220, c221, c222, c223, c224, c225, c226, c227, c228, c229, c230, c231, c232, c233, c234, c235, c236], []⟩ w := by
  have HA1 := hideIt h1
  have HA2 := hideIt h2
  have HL1 := hideIt l1
  have HL2 := hideIt l2
  have HGT := hideIt hgt
  have HEQ := hideIt heq
  have HH := hideIt h
  clear h1 h2 l1 l2 hgt heq h
  conv => arg 2; whnf
  refine wp_region_quiet_lit (by kernel_rfl) (by kernel_rfl) ?_
  iterate 7 (quiet_step (fail))
  quiet_step (exact Calls.quiet_of_same (HA1.out _ (below_dn' _ _)))
  quiet_step (fail)
  refine quiet_load_row rfl 109 (.tmp 130) rfl R (r * nC 1) rfl row HL1.out ?_
  iterate 7 (quiet_step (fail))
  quiet_step (exact Calls.quiet_of_same (HA2.out _ (below_dn' _ _)))
  quiet_step (fail)
  refine quiet_load_row rfl 109 (.tmp 140) rfl R2 (r2 * nC 1) rfl row2 HL2.out ?_
  refine quiet_eql_row2 rfl 109 109 (.tmp 131) (.tmp 141) rfl row row2 qb rfl rfl HGT.out HEQ.out ?_
  quiet_step (fail)
  refine wpQuiet_nil ?_
  intro _ hw'
  obtain ⟨nq, hw''⟩ := hw'
  subst hw''
  exact HH.out _ _ _ _ _ _ _ _ _ _ _ _ _ _ _ _ _ _ _ _ _ nq
set_option maxHeartbeats 4000000 in
theorem rega2 {Q : Exit → Act → World → Prop} {A A2 j r r2 R R2 : Nat} {row row2 : Array Value} {qb : Bool} {w : World} {c2 c3 c4 c5 c6 c7 c8 c11 c12 c13 c14 c15 c16 c17 c18 c19 c20 c21 c22 c23 c24 c25 c26 c27 c28 c29 c30 c31 c32 c33 c34 c35 c36 c37 c38 c39 c40 c41 c42 c43 c44 c45 c46 c47 c48 c49 c50 c51 c52 c53 c54 c55 c56 c57 c58 c59 c60 c61 c62 c63 c64 c65 c66 c67 c68 c69 c70 c71 c72 c73 c74 c75 c76 c77 c78 c79 c80 c81 c82 c83 c84 c85 c86 c87 c88 c89 c90 c91 c92 c93 c94 c95 c96 c97 c98 c99 c100 c101 c102 c103 c104 c105 c106 c107 c108 c109 c110 c111 c112 c113 c114 c115 c116 c117 c118 c119 c120 c121 c122 c123 c124 c125 c126 c127 c128 c129 c130 c131 c132 c133 c134 c135 c136 c137 c138 c139 c140 c141 c142 c143 c144 c145 c146 c147 c148 c149 c150 c151 c152 c153 c154 c155 c156 c157 c158 c159 c160 c161 c162 c163 c164 c165 c166 c167 c168 c169 c170 c171 c172 c173 c174 c175 c176 c177 c178 c179 c180 c181 c182 c183 c184 c185 c186 c187 c188 c189 c190 c191 c192 c193 c194 c195 c196 c197 c198 c199 c200 c201 c202 c203 c204 c205 c206 c207 c208 c209 c210 c211 c212 c213 c214 c215 c216 c217 c218 c219 c220 c221 c222 c223 c224 c225 c226 c227 c228 c229 c230 c231 c232 c233 c234 c235 c236 : Value}
    (ar : w.cell? ⟨A, j * 8 + 2, none⟩ = some (.int .u16 (r : Int))) (br : w.cell? ⟨A2, j * 8 + 2, none⟩ = some (.int .u16 (r2 : Int)))
    (h1 : ∀ wq, Below w.heap.size w wq → Calls Tryz.prog 112 #[.pointer (some ⟨A, 2890, none⟩), .int .u16 (r : Int)] wq fun e w' => e = .returned (.pointer (some ⟨R, r * nC 2, none⟩)) ∧ w' = wq)
    (h2 : ∀ wq, Below w.heap.size w wq → Calls Tryz.prog 112 #[.pointer (some ⟨A2, 2890, none⟩), .int .u16 (r2 : Int)] wq fun e w' => e = .returned (.pointer (some ⟨R2, r2 * nC 2, none⟩)) ∧ w' = wq)
    (l1 : ∀ wq, (∃ nn, wq = w.drewN nn) → (loadVar 115 ⟨R, r * nC 2, none⟩).run Tryz.prog wq = .ok (.agg row) wq) (l2 : ∀ wq, (∃ nn, wq = w.drewN nn) → (loadVar 115 ⟨R2, r2 * nC 2, none⟩).run Tryz.prog wq = .ok (.agg row2) wq)
    (hgt : (Tryz.prog).eqGuardType (Tryz.prog).depth 115 = false) (heq : ∀ w, (Op.equalIn 10000 115 (.agg row) (.agg row2)).run Tryz.prog w = .ok qb w)
    (h : ∀ (x145 x146 x147 x148 x149 x150 x151 x152 x153 x154 x155 x156 x157 x158 x159 x160 x161 x162 x163 x164 x165 : Value) (nq : Nat), Q .normal ⟨#[.pointer (some ⟨A, 0, none⟩), .pointer (some ⟨A2, 0, none⟩), c2, c3, c4, c5, c6, c7, c8, .pointer (some ⟨A, j * 8, none⟩), .pointer (some ⟨A2, j * 8, none⟩), .bool qb, c12, c13, c14, c15, c16, c17, c18, c19, c20, c21, c22, c23, c24, c25, c26, c27, c28, c29, c30, c31, c32, c33, c34, c35, c36, c37, c38, c39, c40, c41, c42, c43, c44, c45, c46, c47, c48, c49, c50, c51, c52, c53, c54, c55, c56, c57, c58, c59, c60, c61, c62, c63, c64, c65, c66, c67, c68, c69, c70, c71, c72, c73, c74, c75, c76, c77, c78, c79, c80, c81, c82, c83, c84, c85, c86, c87, c88, c89, c90, c91, c92, c93, c94, c95, c96, c97, c98, c99, c100, c101, c102, c103, c104, c105, c106, c107, c108, c109, c110, c111, c112, c113, c114, c115, c116, c117, c118, c119, c120, c121, c122, c123, c124, c125, c126, c127, c128, c129, c130, c131, c132, c133, c134, c135, c136, c137, c138, c139, c140, c141, c142, c143, c144, x145, x146, x147, x148, x149, x150, x151, x152, x153, x154, x155, x156, x157, x158, x159, x160, x161, x162, x163, x164, x165, c166, c167, c168, c169, c170, c171, c172, c173, c174, c175, c176, c177, c178, c179, c180, c181, c182, c183, c184, c185, c186, c187, c188, c189, c190, c191, c192, c193, c194, c195, c196, c197, c198, c199, c200, c201, c202, c203, c204, c205, c206, c207, c208, c209, c210, c211, c212, c213, c214, c215, c216, c217, c218, c219, c220, c221, c222, c223, c224, c225, c226, c227, c228, c229, c230, c231, c232, c233, c234, c235, c236], []⟩ (w.drewN nq)) :
    (rgE 19).wp Tryz.prog Q ⟨#[.pointer (some ⟨A, 0, none⟩), .pointer (some ⟨A2, 0, none⟩), c2, c3, c4, c5, c6, c7, c8, .pointer (some ⟨A, j * 8, none⟩), .pointer (some ⟨A2, j * 8, none⟩), c11, c12, c13, c14, c15, c16, c17, c18, c19, c20, c21, c22, c23, c24, c25, c26, c27, c28, c29, c30, c31, c32, c33, c34, c35, c36, c37, c38, c39, c40, c41, c42, c43, c44, c45, c46, c47, c48, c49, c50, c51, c52, c53, c54, c55, c56, c57, c58, c59, c60, c61, c62, c63, c64, c65, c66, c67, c68, c69, c70, c71, c72, c73, c74, c75, c76, c77, c78, c79, c80, c81, c82, c83, c84, c85, c86, c87, c88, c89, c90, c91, c92, c93, c94, c95, c96, c97, c98, c99, c100, c101, c102, c103, c104, c105, c106, c107, c108, c109, c110, c111, c112, c113, c114, c115, c116, c117, c118, c119, c120, c121, c122, c123, c124, c125, c126, c127, c128, c129, c130, c131, c132, c133, c134, c135, c136, c137, c138, c139, c140, c141, c142, c143, c144, c145, c146, c147, c148, c149, c150, c151, c152, c153, c154, c155, c156, c157, c158, c159, c160, c161, c162, c163, c164, c165, c166, c167, c168, c169, c170, c171, c172, c173, c174, c175, c176, c177, c178, c179, c180, c181, c182, c183, c184, c185, c186, c187, c188, c189, c190, c191, c192, c193, c194, c195, c196, c197, c198, c199, c200, c201, c202, c203, c204, c205, c206, c207, c208, c209, c210, c211, c212, c213, c214, c215, c216, c217, c218, c219, c220, c221, c222, c223, c224, c225, c226, c227, c228, c229, c230, c231, c232, c233, c234, c235, c236], []⟩ w := by
  have HA1 := hideIt h1
  have HA2 := hideIt h2
  have HL1 := hideIt l1
  have HL2 := hideIt l2
  have HGT := hideIt hgt
  have HEQ := hideIt heq
  have HH := hideIt h
  clear h1 h2 l1 l2 hgt heq h
  conv => arg 2; whnf
  refine wp_region_quiet_lit (by kernel_rfl) (by kernel_rfl) ?_
  iterate 7 (quiet_step (fail))
  quiet_step (exact Calls.quiet_of_same (HA1.out _ (below_dn' _ _)))
  quiet_step (fail)
  refine quiet_load_row rfl 115 (.tmp 153) rfl R (r * nC 2) rfl row HL1.out ?_
  iterate 7 (quiet_step (fail))
  quiet_step (exact Calls.quiet_of_same (HA2.out _ (below_dn' _ _)))
  quiet_step (fail)
  refine quiet_load_row rfl 115 (.tmp 163) rfl R2 (r2 * nC 2) rfl row2 HL2.out ?_
  refine quiet_eql_row2 rfl 115 115 (.tmp 154) (.tmp 164) rfl row row2 qb rfl rfl HGT.out HEQ.out ?_
  quiet_step (fail)
  refine wpQuiet_nil ?_
  intro _ hw'
  obtain ⟨nq, hw''⟩ := hw'
  subst hw''
  exact HH.out _ _ _ _ _ _ _ _ _ _ _ _ _ _ _ _ _ _ _ _ _ nq
set_option maxHeartbeats 4000000 in
theorem rega3 {Q : Exit → Act → World → Prop} {A A2 j r r2 R R2 : Nat} {row row2 : Array Value} {qb : Bool} {w : World} {c2 c3 c4 c5 c6 c7 c8 c11 c12 c13 c14 c15 c16 c17 c18 c19 c20 c21 c22 c23 c24 c25 c26 c27 c28 c29 c30 c31 c32 c33 c34 c35 c36 c37 c38 c39 c40 c41 c42 c43 c44 c45 c46 c47 c48 c49 c50 c51 c52 c53 c54 c55 c56 c57 c58 c59 c60 c61 c62 c63 c64 c65 c66 c67 c68 c69 c70 c71 c72 c73 c74 c75 c76 c77 c78 c79 c80 c81 c82 c83 c84 c85 c86 c87 c88 c89 c90 c91 c92 c93 c94 c95 c96 c97 c98 c99 c100 c101 c102 c103 c104 c105 c106 c107 c108 c109 c110 c111 c112 c113 c114 c115 c116 c117 c118 c119 c120 c121 c122 c123 c124 c125 c126 c127 c128 c129 c130 c131 c132 c133 c134 c135 c136 c137 c138 c139 c140 c141 c142 c143 c144 c145 c146 c147 c148 c149 c150 c151 c152 c153 c154 c155 c156 c157 c158 c159 c160 c161 c162 c163 c164 c165 c166 c167 c168 c169 c170 c171 c172 c173 c174 c175 c176 c177 c178 c179 c180 c181 c182 c183 c184 c185 c186 c187 c188 c189 c190 c191 c192 c193 c194 c195 c196 c197 c198 c199 c200 c201 c202 c203 c204 c205 c206 c207 c208 c209 c210 c211 c212 c213 c214 c215 c216 c217 c218 c219 c220 c221 c222 c223 c224 c225 c226 c227 c228 c229 c230 c231 c232 c233 c234 c235 c236 : Value}
    (ar : w.cell? ⟨A, j * 8 + 2, none⟩ = some (.int .u16 (r : Int))) (br : w.cell? ⟨A2, j * 8 + 2, none⟩ = some (.int .u16 (r2 : Int)))
    (h1 : ∀ wq, Below w.heap.size w wq → Calls Tryz.prog 113 #[.pointer (some ⟨A, 2892, none⟩), .int .u16 (r : Int)] wq fun e w' => e = .returned (.pointer (some ⟨R, r * nC 3, none⟩)) ∧ w' = wq)
    (h2 : ∀ wq, Below w.heap.size w wq → Calls Tryz.prog 113 #[.pointer (some ⟨A2, 2892, none⟩), .int .u16 (r2 : Int)] wq fun e w' => e = .returned (.pointer (some ⟨R2, r2 * nC 3, none⟩)) ∧ w' = wq)
    (l1 : ∀ wq, (∃ nn, wq = w.drewN nn) → (loadVar 121 ⟨R, r * nC 3, none⟩).run Tryz.prog wq = .ok (.agg row) wq) (l2 : ∀ wq, (∃ nn, wq = w.drewN nn) → (loadVar 121 ⟨R2, r2 * nC 3, none⟩).run Tryz.prog wq = .ok (.agg row2) wq)
    (hgt : (Tryz.prog).eqGuardType (Tryz.prog).depth 121 = false) (heq : ∀ w, (Op.equalIn 10000 121 (.agg row) (.agg row2)).run Tryz.prog w = .ok qb w)
    (h : ∀ (x168 x169 x170 x171 x172 x173 x174 x175 x176 x177 x178 x179 x180 x181 x182 x183 x184 x185 x186 x187 x188 : Value) (nq : Nat), Q .normal ⟨#[.pointer (some ⟨A, 0, none⟩), .pointer (some ⟨A2, 0, none⟩), c2, c3, c4, c5, c6, c7, c8, .pointer (some ⟨A, j * 8, none⟩), .pointer (some ⟨A2, j * 8, none⟩), .bool qb, c12, c13, c14, c15, c16, c17, c18, c19, c20, c21, c22, c23, c24, c25, c26, c27, c28, c29, c30, c31, c32, c33, c34, c35, c36, c37, c38, c39, c40, c41, c42, c43, c44, c45, c46, c47, c48, c49, c50, c51, c52, c53, c54, c55, c56, c57, c58, c59, c60, c61, c62, c63, c64, c65, c66, c67, c68, c69, c70, c71, c72, c73, c74, c75, c76, c77, c78, c79, c80, c81, c82, c83, c84, c85, c86, c87, c88, c89, c90, c91, c92, c93, c94, c95, c96, c97, c98, c99, c100, c101, c102, c103, c104, c105, c106, c107, c108, c109, c110, c111, c112, c113, c114, c115, c116, c117, c118, c119, c120, c121, c122, c123, c124, c125, c126, c127, c128, c129, c130, c131, c132, c133, c134, c135, c136, c137, c138, c139, c140, c141, c142, c143, c144, c145, c146, c147, c148, c149, c150, c151, c152, c153, c154, c155, c156, c157, c158, c159, c160, c161, c162, c163, c164, c165, c166, c167, x168, x169, x170, x171, x172, x173, x174, x175, x176, x177, x178, x179, x180, x181, x182, x183, x184, x185, x186, x187, x188, c189, c190, c191, c192, c193, c194, c195, c196, c197, c198, c199, c200, c201, c202, c203, c204, c205, c206, c207, c208, c209, c210, c211, c212, c213, c214, c215, c216, c217, c218, c219, c220, c221, c222, c223, c224, c225, c226, c227, c228, c229, c230, c231, c232, c233, c234, c235, c236], []⟩ (w.drewN nq)) :
    (rgE 21).wp Tryz.prog Q ⟨#[.pointer (some ⟨A, 0, none⟩), .pointer (some ⟨A2, 0, none⟩), c2, c3, c4, c5, c6, c7, c8, .pointer (some ⟨A, j * 8, none⟩), .pointer (some ⟨A2, j * 8, none⟩), c11, c12, c13, c14, c15, c16, c17, c18, c19, c20, c21, c22, c23, c24, c25, c26, c27, c28, c29, c30, c31, c32, c33, c34, c35, c36, c37, c38, c39, c40, c41, c42, c43, c44, c45, c46, c47, c48, c49, c50, c51, c52, c53, c54, c55, c56, c57, c58, c59, c60, c61, c62, c63, c64, c65, c66, c67, c68, c69, c70, c71, c72, c73, c74, c75, c76, c77, c78, c79, c80, c81, c82, c83, c84, c85, c86, c87, c88, c89, c90, c91, c92, c93, c94, c95, c96, c97, c98, c99, c100, c101, c102, c103, c104, c105, c106, c107, c108, c109, c110, c111, c112, c113, c114, c115, c116, c117, c118, c119, c120, c121, c122, c123, c124, c125, c126, c127, c128, c129, c130, c131, c132, c133, c134, c135, c136, c137, c138, c139, c140, c141, c142, c143, c144, c145, c146, c147, c148, c149, c150, c151, c152, c153, c154, c155, c156, c157, c158, c159, c160, c161, c162, c163, c164, c165, c166, c167, c168, c169, c170, c171, c172, c173, c174, c175, c176, c177, c178, c179, c180, c181, c182, c183, c184, c185, c186, c187, c188, c189, c190, c191, c192, c193, c194, c195, c196, c197, c198, c199, c200, c201, c202, c203, c204, c205, c206, c207, c208, c209, c210, c211, c212, c213, c214, c215, c216, c217, c218, c219, c220, c221, c222, c223, c224, c225, c226, c227, c228, c229, c230, c231, c232, c233, c234, c235, c236], []⟩ w := by
  have HA1 := hideIt h1
  have HA2 := hideIt h2
  have HL1 := hideIt l1
  have HL2 := hideIt l2
  have HGT := hideIt hgt
  have HEQ := hideIt heq
  have HH := hideIt h
  clear h1 h2 l1 l2 hgt heq h
  conv => arg 2; whnf
  refine wp_region_quiet_lit (by kernel_rfl) (by kernel_rfl) ?_
  iterate 7 (quiet_step (fail))
  quiet_step (exact Calls.quiet_of_same (HA1.out _ (below_dn' _ _)))
  quiet_step (fail)
  refine quiet_load_row rfl 121 (.tmp 176) rfl R (r * nC 3) rfl row HL1.out ?_
  iterate 7 (quiet_step (fail))
  quiet_step (exact Calls.quiet_of_same (HA2.out _ (below_dn' _ _)))
  quiet_step (fail)
  refine quiet_load_row rfl 121 (.tmp 186) rfl R2 (r2 * nC 3) rfl row2 HL2.out ?_
  refine quiet_eql_row2 rfl 121 121 (.tmp 177) (.tmp 187) rfl row row2 qb rfl rfl HGT.out HEQ.out ?_
  quiet_step (fail)
  refine wpQuiet_nil ?_
  intro _ hw'
  obtain ⟨nq, hw''⟩ := hw'
  subst hw''
  exact HH.out _ _ _ _ _ _ _ _ _ _ _ _ _ _ _ _ _ _ _ _ _ nq
set_option maxHeartbeats 4000000 in
theorem rega4 {Q : Exit → Act → World → Prop} {A A2 j r r2 R R2 : Nat} {row row2 : Array Value} {qb : Bool} {w : World} {c2 c3 c4 c5 c6 c7 c8 c11 c12 c13 c14 c15 c16 c17 c18 c19 c20 c21 c22 c23 c24 c25 c26 c27 c28 c29 c30 c31 c32 c33 c34 c35 c36 c37 c38 c39 c40 c41 c42 c43 c44 c45 c46 c47 c48 c49 c50 c51 c52 c53 c54 c55 c56 c57 c58 c59 c60 c61 c62 c63 c64 c65 c66 c67 c68 c69 c70 c71 c72 c73 c74 c75 c76 c77 c78 c79 c80 c81 c82 c83 c84 c85 c86 c87 c88 c89 c90 c91 c92 c93 c94 c95 c96 c97 c98 c99 c100 c101 c102 c103 c104 c105 c106 c107 c108 c109 c110 c111 c112 c113 c114 c115 c116 c117 c118 c119 c120 c121 c122 c123 c124 c125 c126 c127 c128 c129 c130 c131 c132 c133 c134 c135 c136 c137 c138 c139 c140 c141 c142 c143 c144 c145 c146 c147 c148 c149 c150 c151 c152 c153 c154 c155 c156 c157 c158 c159 c160 c161 c162 c163 c164 c165 c166 c167 c168 c169 c170 c171 c172 c173 c174 c175 c176 c177 c178 c179 c180 c181 c182 c183 c184 c185 c186 c187 c188 c189 c190 c191 c192 c193 c194 c195 c196 c197 c198 c199 c200 c201 c202 c203 c204 c205 c206 c207 c208 c209 c210 c211 c212 c213 c214 c215 c216 c217 c218 c219 c220 c221 c222 c223 c224 c225 c226 c227 c228 c229 c230 c231 c232 c233 c234 c235 c236 : Value}
    (ar : w.cell? ⟨A, j * 8 + 2, none⟩ = some (.int .u16 (r : Int))) (br : w.cell? ⟨A2, j * 8 + 2, none⟩ = some (.int .u16 (r2 : Int)))
    (h1 : ∀ wq, Below w.heap.size w wq → Calls Tryz.prog 114 #[.pointer (some ⟨A, 2894, none⟩), .int .u16 (r : Int)] wq fun e w' => e = .returned (.pointer (some ⟨R, r * nC 4, none⟩)) ∧ w' = wq)
    (h2 : ∀ wq, Below w.heap.size w wq → Calls Tryz.prog 114 #[.pointer (some ⟨A2, 2894, none⟩), .int .u16 (r2 : Int)] wq fun e w' => e = .returned (.pointer (some ⟨R2, r2 * nC 4, none⟩)) ∧ w' = wq)
    (l1 : ∀ wq, (∃ nn, wq = w.drewN nn) → (loadVar 127 ⟨R, r * nC 4, none⟩).run Tryz.prog wq = .ok (.agg row) wq) (l2 : ∀ wq, (∃ nn, wq = w.drewN nn) → (loadVar 127 ⟨R2, r2 * nC 4, none⟩).run Tryz.prog wq = .ok (.agg row2) wq)
    (hgt : (Tryz.prog).eqGuardType (Tryz.prog).depth 127 = false) (heq : ∀ w, (Op.equalIn 10000 127 (.agg row) (.agg row2)).run Tryz.prog w = .ok qb w)
    (h : ∀ (x191 x192 x193 x194 x195 x196 x197 x198 x199 x200 x201 x202 x203 x204 x205 x206 x207 x208 x209 x210 x211 : Value) (nq : Nat), Q .normal ⟨#[.pointer (some ⟨A, 0, none⟩), .pointer (some ⟨A2, 0, none⟩), c2, c3, c4, c5, c6, c7, c8, .pointer (some ⟨A, j * 8, none⟩), .pointer (some ⟨A2, j * 8, none⟩), .bool qb, c12, c13, c14, c15, c16, c17, c18, c19, c20, c21, c22, c23, c24, c25, c26, c27, c28, c29, c30, c31, c32, c33, c34, c35, c36, c37, c38, c39, c40, c41, c42, c43, c44, c45, c46, c47, c48, c49, c50, c51, c52, c53, c54, c55, c56, c57, c58, c59, c60, c61, c62, c63, c64, c65, c66, c67, c68, c69, c70, c71, c72, c73, c74, c75, c76, c77, c78, c79, c80, c81, c82, c83, c84, c85, c86, c87, c88, c89, c90, c91, c92, c93, c94, c95, c96, c97, c98, c99, c100, c101, c102, c103, c104, c105, c106, c107, c108, c109, c110, c111, c112, c113, c114, c115, c116, c117, c118, c119, c120, c121, c122, c123, c124, c125, c126, c127, c128, c129, c130, c131, c132, c133, c134, c135, c136, c137, c138, c139, c140, c141, c142, c143, c144, c145, c146, c147, c148, c149, c150, c151, c152, c153, c154, c155, c156, c157, c158, c159, c160, c161, c162, c163, c164, c165, c166, c167, c168, c169, c170, c171, c172, c173, c174, c175, c176, c177, c178, c179, c180, c181, c182, c183, c184, c185, c186, c187, c188, c189, c190, x191, x192, x193, x194, x195, x196, x197, x198, x199, x200, x201, x202, x203, x204, x205, x206, x207, x208, x209, x210, x211, c212, c213, c214, c215, c216, c217, c218, c219, c220, c221, c222, c223, c224, c225, c226, c227, c228, c229, c230, c231, c232, c233, c234, c235, c236], []⟩ (w.drewN nq)) :
    (rgE 23).wp Tryz.prog Q ⟨#[.pointer (some ⟨A, 0, none⟩), .pointer (some ⟨A2, 0, none⟩), c2, c3, c4, c5, c6, c7, c8, .pointer (some ⟨A, j * 8, none⟩), .pointer (some ⟨A2, j * 8, none⟩), c11, c12, c13, c14, c15, c16, c17, c18, c19, c20, c21, c22, c23, c24, c25, c26, c27, c28, c29, c30, c31, c32, c33, c34, c35, c36, c37, c38, c39, c40, c41, c42, c43, c44, c45, c46, c47, c48, c49, c50, c51, c52, c53, c54, c55, c56, c57, c58, c59, c60, c61, c62, c63, c64, c65, c66, c67, c68, c69, c70, c71, c72, c73, c74, c75, c76, c77, c78, c79, c80, c81, c82, c83, c84, c85, c86, c87, c88, c89, c90, c91, c92, c93, c94, c95, c96, c97, c98, c99, c100, c101, c102, c103, c104, c105, c106, c107, c108, c109, c110, c111, c112, c113, c114, c115, c116, c117, c118, c119, c120, c121, c122, c123, c124, c125, c126, c127, c128, c129, c130, c131, c132, c133, c134, c135, c136, c137, c138, c139, c140, c141, c142, c143, c144, c145, c146, c147, c148, c149, c150, c151, c152, c153, c154, c155, c156, c157, c158, c159, c160, c161, c162, c163, c164, c165, c166, c167, c168, c169, c170, c171, c172, c173, c174, c175, c176, c177, c178, c179, c180, c181, c182, c183, c184, c185, c186, c187, c188, c189, c190, c191, c192, c193, c194, c195, c196, c197, c198, c199, c200, c201, c202, c203, c204, c205, c206, c207, c208, c209, c210, c211, c212, c213, c214, c215, c216, c217, c218, c219, c220, c221, c222, c223, c224, c225, c226, c227, c228, c229, c230, c231, c232, c233, c234, c235, c236], []⟩ w := by
  have HA1 := hideIt h1
  have HA2 := hideIt h2
  have HL1 := hideIt l1
  have HL2 := hideIt l2
  have HGT := hideIt hgt
  have HEQ := hideIt heq
  have HH := hideIt h
  clear h1 h2 l1 l2 hgt heq h
  conv => arg 2; whnf
  refine wp_region_quiet_lit (by kernel_rfl) (by kernel_rfl) ?_
  iterate 7 (quiet_step (fail))
  quiet_step (exact Calls.quiet_of_same (HA1.out _ (below_dn' _ _)))
  quiet_step (fail)
  refine quiet_load_row rfl 127 (.tmp 199) rfl R (r * nC 4) rfl row HL1.out ?_
  iterate 7 (quiet_step (fail))
  quiet_step (exact Calls.quiet_of_same (HA2.out _ (below_dn' _ _)))
  quiet_step (fail)
  refine quiet_load_row rfl 127 (.tmp 209) rfl R2 (r2 * nC 4) rfl row2 HL2.out ?_
  refine quiet_eql_row2 rfl 127 127 (.tmp 200) (.tmp 210) rfl row row2 qb rfl rfl HGT.out HEQ.out ?_
  quiet_step (fail)
  refine wpQuiet_nil ?_
  intro _ hw'
  obtain ⟨nq, hw''⟩ := hw'
  subst hw''
  exact HH.out _ _ _ _ _ _ _ _ _ _ _ _ _ _ _ _ _ _ _ _ _ nq
set_option maxHeartbeats 4000000 in
theorem rega5 {Q : Exit → Act → World → Prop} {A A2 j r r2 R R2 : Nat} {row row2 : Array Value} {qb : Bool} {w : World} {c2 c3 c4 c5 c6 c7 c8 c11 c12 c13 c14 c15 c16 c17 c18 c19 c20 c21 c22 c23 c24 c25 c26 c27 c28 c29 c30 c31 c32 c33 c34 c35 c36 c37 c38 c39 c40 c41 c42 c43 c44 c45 c46 c47 c48 c49 c50 c51 c52 c53 c54 c55 c56 c57 c58 c59 c60 c61 c62 c63 c64 c65 c66 c67 c68 c69 c70 c71 c72 c73 c74 c75 c76 c77 c78 c79 c80 c81 c82 c83 c84 c85 c86 c87 c88 c89 c90 c91 c92 c93 c94 c95 c96 c97 c98 c99 c100 c101 c102 c103 c104 c105 c106 c107 c108 c109 c110 c111 c112 c113 c114 c115 c116 c117 c118 c119 c120 c121 c122 c123 c124 c125 c126 c127 c128 c129 c130 c131 c132 c133 c134 c135 c136 c137 c138 c139 c140 c141 c142 c143 c144 c145 c146 c147 c148 c149 c150 c151 c152 c153 c154 c155 c156 c157 c158 c159 c160 c161 c162 c163 c164 c165 c166 c167 c168 c169 c170 c171 c172 c173 c174 c175 c176 c177 c178 c179 c180 c181 c182 c183 c184 c185 c186 c187 c188 c189 c190 c191 c192 c193 c194 c195 c196 c197 c198 c199 c200 c201 c202 c203 c204 c205 c206 c207 c208 c209 c210 c211 c212 c213 c214 c215 c216 c217 c218 c219 c220 c221 c222 c223 c224 c225 c226 c227 c228 c229 c230 c231 c232 c233 c234 c235 c236 : Value}
    (ar : w.cell? ⟨A, j * 8 + 2, none⟩ = some (.int .u16 (r : Int))) (br : w.cell? ⟨A2, j * 8 + 2, none⟩ = some (.int .u16 (r2 : Int)))
    (h1 : ∀ wq, Below w.heap.size w wq → Calls Tryz.prog 115 #[.pointer (some ⟨A, 2896, none⟩), .int .u16 (r : Int)] wq fun e w' => e = .returned (.pointer (some ⟨R, r * nC 5, none⟩)) ∧ w' = wq)
    (h2 : ∀ wq, Below w.heap.size w wq → Calls Tryz.prog 115 #[.pointer (some ⟨A2, 2896, none⟩), .int .u16 (r2 : Int)] wq fun e w' => e = .returned (.pointer (some ⟨R2, r2 * nC 5, none⟩)) ∧ w' = wq)
    (l1 : ∀ wq, (∃ nn, wq = w.drewN nn) → (loadVar 133 ⟨R, r * nC 5, none⟩).run Tryz.prog wq = .ok (.agg row) wq) (l2 : ∀ wq, (∃ nn, wq = w.drewN nn) → (loadVar 133 ⟨R2, r2 * nC 5, none⟩).run Tryz.prog wq = .ok (.agg row2) wq)
    (hgt : (Tryz.prog).eqGuardType (Tryz.prog).depth 133 = false) (heq : ∀ w, (Op.equalIn 10000 133 (.agg row) (.agg row2)).run Tryz.prog w = .ok qb w)
    (h : ∀ (x214 x215 x216 x217 x218 x219 x220 x221 x222 x223 x224 x225 x226 x227 x228 x229 x230 x231 x232 x233 x234 : Value) (nq : Nat), Q .normal ⟨#[.pointer (some ⟨A, 0, none⟩), .pointer (some ⟨A2, 0, none⟩), c2, c3, c4, c5, c6, c7, c8, .pointer (some ⟨A, j * 8, none⟩), .pointer (some ⟨A2, j * 8, none⟩), .bool qb, c12, c13, c14, c15, c16, c17, c18, c19, c20, c21, c22, c23, c24, c25, c26, c27, c28, c29, c30, c31, c32, c33, c34, c35, c36, c37, c38, c39, c40, c41, c42, c43, c44, c45, c46, c47, c48, c49, c50, c51, c52, c53, c54, c55, c56, c57, c58, c59, c60, c61, c62, c63, c64, c65, c66, c67, c68, c69, c70, c71, c72, c73, c74, c75, c76, c77, c78, c79, c80, c81, c82, c83, c84, c85, c86, c87, c88, c89, c90, c91, c92, c93, c94, c95, c96, c97, c98, c99, c100, c101, c102, c103, c104, c105, c106, c107, c108, c109, c110, c111, c112, c113, c114, c115, c116, c117, c118, c119, c120, c121, c122, c123, c124, c125, c126, c127, c128, c129, c130, c131, c132, c133, c134, c135, c136, c137, c138, c139, c140, c141, c142, c143, c144, c145, c146, c147, c148, c149, c150, c151, c152, c153, c154, c155, c156, c157, c158, c159, c160, c161, c162, c163, c164, c165, c166, c167, c168, c169, c170, c171, c172, c173, c174, c175, c176, c177, c178, c179, c180, c181, c182, c183, c184, c185, c186, c187, c188, c189, c190, c191, c192, c193, c194, c195, c196, c197, c198, c199, c200, c201, c202, c203, c204, c205, c206, c207, c208, c209, c210, c211, c212, c213, x214, x215, x216, x217, x218, x219, x220, x221, x222, x223, x224, x225, x226, x227, x228, x229, x230, x231, x232, x233, x234, c235, c236], []⟩ (w.drewN nq)) :
    (rgE 25).wp Tryz.prog Q ⟨#[.pointer (some ⟨A, 0, none⟩), .pointer (some ⟨A2, 0, none⟩), c2, c3, c4, c5, c6, c7, c8, .pointer (some ⟨A, j * 8, none⟩), .pointer (some ⟨A2, j * 8, none⟩), c11, c12, c13, c14, c15, c16, c17, c18, c19, c20, c21, c22, c23, c24, c25, c26, c27, c28, c29, c30, c31, c32, c33, c34, c35, c36, c37, c38, c39, c40, c41, c42, c43, c44, c45, c46, c47, c48, c49, c50, c51, c52, c53, c54, c55, c56, c57, c58, c59, c60, c61, c62, c63, c64, c65, c66, c67, c68, c69, c70, c71, c72, c73, c74, c75, c76, c77, c78, c79, c80, c81, c82, c83, c84, c85, c86, c87, c88, c89, c90, c91, c92, c93, c94, c95, c96, c97, c98, c99, c100, c101, c102, c103, c104, c105, c106, c107, c108, c109, c110, c111, c112, c113, c114, c115, c116, c117, c118, c119, c120, c121, c122, c123, c124, c125, c126, c127, c128, c129, c130, c131, c132, c133, c134, c135, c136, c137, c138, c139, c140, c141, c142, c143, c144, c145, c146, c147, c148, c149, c150, c151, c152, c153, c154, c155, c156, c157, c158, c159, c160, c161, c162, c163, c164, c165, c166, c167, c168, c169, c170, c171, c172, c173, c174, c175, c176, c177, c178, c179, c180, c181, c182, c183, c184, c185, c186, c187, c188, c189, c190, c191, c192, c193, c194, c195, c196, c197, c198, c199, c200, c201, c202, c203, c204, c205, c206, c207, c208, c209, c210, c211, c212, c213, c214, c215, c216, c217, c218, c219, c220, c221, c222, c223, c224, c225, c226, c227, c228, c229, c230, c231, c232, c233, c234, c235, c236], []⟩ w := by
  have HA1 := hideIt h1
  have HA2 := hideIt h2
  have HL1 := hideIt l1
  have HL2 := hideIt l2
  have HGT := hideIt hgt
  have HEQ := hideIt heq
  have HH := hideIt h
  clear h1 h2 l1 l2 hgt heq h
  conv => arg 2; whnf
  refine wp_region_quiet_lit (by kernel_rfl) (by kernel_rfl) ?_
  iterate 7 (quiet_step (fail))
  quiet_step (exact Calls.quiet_of_same (HA1.out _ (below_dn' _ _)))
  quiet_step (fail)
  refine quiet_load_row rfl 133 (.tmp 222) rfl R (r * nC 5) rfl row HL1.out ?_
  iterate 7 (quiet_step (fail))
  quiet_step (exact Calls.quiet_of_same (HA2.out _ (below_dn' _ _)))
  quiet_step (fail)
  refine quiet_load_row rfl 133 (.tmp 232) rfl R2 (r2 * nC 5) rfl row2 HL2.out ?_
  refine quiet_eql_row2 rfl 133 133 (.tmp 223) (.tmp 233) rfl row row2 qb rfl rfl HGT.out HEQ.out ?_
  quiet_step (fail)
  refine wpQuiet_nil ?_
  intro _ hw'
  obtain ⟨nq, hw''⟩ := hw'
  subst hw''
  exact HH.out _ _ _ _ _ _ _ _ _ _ _ _ _ _ _ _ _ _ _ _ _ nq
end Go.Proofs.Qxb6500847aGreatDoor.Os
