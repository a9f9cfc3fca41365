/- An argument that is a struct with one field, a slice of whole numbers, taken apart: its value, its row, and that the row is no longer than its weight allows. Conditions stand in the theorem. -/
import Derived.SizedLaws
import Derived.ChangeSlices
import Derived.ChangeSame
import Derived.Deep.Fields
import Derived.WideShapes
namespace Go.Proofs.YtlbhfbanbdahdaaM
open Go.ChangeShapes Go.WideShapes Go.Deep
theorem open_fam {H : Type} {enc : TypeId × Value → H} {P : Program} {W : World} {base : Nat} {held : Bool} {t e : TypeId} {f0 : Field} {k : IntKind} {v : Value} {d : DataW H} {ps : List MemPlace} {ts : List TypeId} {ds : List (DataW H)} {j : Nat} {r : Reach} {b0 : Nat}
    (hs : P.underlying t = some (.struct #[f0])) (hone : oneCellFields P #[f0] = true) (hC : P.cellsOf t = 1) (hu : P.underlying f0.type = some (.slice e)) (he : P.underlying e = some (.int k)) (hc : P.cellsOf e = 1) {B : Nat} (hB : P.bytesOf e = B)
    (hsz : (DataW.weightsEach P ts ds).all (· ≤ reachBytes) = true) (ht : ts[j]? = some t) (hd : ds[j]? = some d) (hv : Value.okWide P W r b0 t v)
    (h : DataW.Trod enc P W base (fun _ => true) held t v d ps) :
    ∃ (a : Option Addr) (len cap : Nat) (zs : List Int), v = .agg #[.slice a len cap] ∧
      ((a = none ∧ len = 0 ∧ cap = 0 ∧ zs = []) ∨
        ∃ x, a = some x ∧ len ≤ cap ∧ cap ≤ maxLen ∧ zs.length = cap ∧ (∀ i, i < zs.length → W.cell? (x.add i) = some (.int k (zs.getD i 0))) ∧ ∀ n ∈ zs, (Lit.int k n).wf = true) ∧
      len * B ≤ 140737488351232 := by
  obtain ⟨cs, rfl, hcs⟩ := okWide_struct hs hv
  rw [hC] at hcs
  obtain ⟨v0, rfl⟩ : ∃ v0, cs = #[v0] := by
    obtain ⟨l⟩ := cs
    match l, hcs with
    | [v0], _ => exact ⟨v0, rfl⟩
  obtain ⟨fuel, hf⟩ := h
  obtain ⟨y0, n, hx, _, h0⟩ := trod_struct1 hs hf
  obtain ⟨o0, k0⟩ := hone_of hone 0 f0 rfl
  simp only [Prod.mk.injEq] at hx
  obtain ⟨rfl, rfl⟩ := hx
  have h1 : DataW.trod enc P W base (fun _ => true) held n f0.type [v0] = some y0 := by simpa [Value.cells, o0, k0] using h0
  rcases open_ints hu he hc h1 with ⟨hcs, _⟩ | ⟨x, l, c, zs, hcs, _, hl, hm, hz, hx, hcell, hwz⟩
  · obtain rfl := List.cons.inj hcs |>.1
    exact ⟨none, 0, 0, [], rfl, .inl ⟨rfl, rfl, rfl, rfl⟩, by simp⟩
  · obtain rfl := (List.cons.inj hcs).1
    refine ⟨some x, l, c, zs, rfl, .inr ⟨_, rfl, hl, hm, by simpa using hz, hcell, hwz⟩, ?_⟩
    subst hx
    have z := List.all_eq_true.1 hsz _ (DataW.weights_mem_each ht hd (((lits (H := H) k (zs.take l)).length + (lits (H := H) k (zs.drop l)).length) * P.bytesOf e) (by simp [DataW.weights, hs, hu, DataW.weightsEach]))
    rw [hB, decide_eq_true_iff] at z
    have hl2 : l ≤ zs.length := by
      have : zs.length = c := by simpa using hz
      omega
    have e1 : (lits (H := H) k (zs.take l)).length + (lits (H := H) k (zs.drop l)).length = zs.length := by
      simp [lits]; omega
    rw [e1] at z
    exact Nat.le_trans (Nat.mul_le_mul_right _ hl2) z
end Go.Proofs.YtlbhfbanbdahdaaM
