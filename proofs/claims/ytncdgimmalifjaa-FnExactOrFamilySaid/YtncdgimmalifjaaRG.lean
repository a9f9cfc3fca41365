/- In a region that draws its order: loads of arrays and their '==', told at whatever world. Conditions stand in each theorem. -/
import Derived.Test.YtncdgimmalifjaaHM
import Derived.Test.YtncdgimmalifjaaWLast
import Derived.Laws.Rows
namespace Go.Proofs.YtncdgimmalifjaaM
open Go.RowKit Go.Proofs.YtncdgimmalifjaaW.PrintWords Go.Proofs.YtncdgimmalifjaaW.PrintLast Go.Proofs.YtncdgimmalifjaaW.PrintMore
theorem load_arr {P : Program} {o : Oper} {a : Act} {w : World} (ty : TypeId) (x : Operand) (ho : o.op = .load ty x)
    (g : Nat) (hx : a.eval x = .pointer (some ⟨g, 0, none⟩)) (t : TypeId) (cs : Array Value) (fr : Nat × Nat) (d : TypeDesc) (hg : w.heap[g]? = some (.cells cs t fr))
    (hu : P.underlying ty = some d) (hd : (match d with | .struct _ | .array _ _ => true | _ => false) = true) (hi : (P.info? ty).map (·.size) = some cs.size) :
    (execOp a.eval o).run P w = .ok (.value (.agg cs)) w := by
  unfold execOp
  simp only [ho, hx, Instr.loadAt, Instr.sureAddr, Sem.run_bind, Sem.run_pure, Result.andThen_ok, run_loadVar_row w g t ty cs fr d hg hu hd hi]
theorem eqlB_run {P : Program} {oi : Oper} {a : Act} {w : World} {t e rt : TypeId} {n : Nat} {x y : Operand} {xs ys : List Bool} (ho : oi.op = .binOp .eql t x y rt) (hx : a.eval x = .agg (bcs xs)) (hy : a.eval y = .agg (bcs ys))
    (hm : P.eqGuardType P.depth t = false) (hu : P.underlying t = some (.array n e)) (he : P.plainKey e = true) (hb : P.underlying e = some .bool) (hi0 : (P.info? e).map (·.size) = some 1) (hs : P.cellsOf e = 1) (hl : xs.length = n) (hl2 : ys.length = n) :
    (execOp a.eval oi).run P w = .ok (.value (.bool (xs == ys))) w := by
  obtain ⟨ty, hi, _⟩ := Option.map_eq_some_iff.1 hi0
  unfold execOp
  simp only [ho, hx, hy, Sem.run_bind, run_eqGuard_agg w _ _ _ _ _ _ hm, Result.andThen_ok, run_eql_struct]
  rw [show (10000 : Nat) = 9999 + 1 from rfl, run_equalIn_array w 9999 _ _ hu hi, hs, eqItemsB w 9998 he hb xs ys _ (fun j hj => by have := List.mem_range.1 hj; omega)]
  subst hl
  rw [all_eq false xs ys hl2.symm]
  simp
end Go.Proofs.YtncdgimmalifjaaM
