/- Functions of the model's own that the library leans on: new bytes of whatever values. -/
import Derived.Test.YtickckpndpeppaaA28
import Derived.Lib.MakeNoZero
import Derived.Laws.Externs
set_option linter.unusedVariables false
set_option linter.unusedSimpArgs false
namespace Go.Abs
open Go Go.RowKit

theorem noZero_spec {P : Program} {f : FuncId} {fn : Func} {ps : Array TypeId} {t e : TypeId} (hf : P.funcs[f]? = some fn) (hname : (fn.name == "runtime.NumGoroutine") = false) (hb : fn.body.isNone = true) (hnx : Extern.findNext fn = none)
    (he : Extern.find fn = some (Extern.BytealgMakeNoZero.makeNoZero ps #[t])) (ht : P.underlying t = some (.slice e)) (n : Nat) (hn : n ≤ 281474976710656) (H : AH) :
    ASpec P f [.int .i64 n] H fun r H' => r = .slice ⟨false, H.n, 0⟩ n (.grow 1) ∧ H' = H.push (some (.cells (List.replicate n .unk))) := by
  intro w0 ι w cargs hr hv
  unfold RVL at hv
  obtain ⟨y, m, hl, h1, h2⟩ := hv
  unfold RV at h1
  unfold RVL at h2
  subst h1 h2
  obtain rfl : cargs = #[.int .i64 n] := by cases cargs; simp at hl; rw [hl]
  obtain ⟨cs, hrun, hle, _⟩ := Lib.run_makeNoZero (P := P) w ps t e ht n hn
  refine .inr ⟨.slice (some ⟨w.heap.size, 0, none⟩) n cs.size, w.drew.drew.alloc (.cells cs e), ?_, ?_⟩
  · rw [run_callFunc_extern hf hname hb hnx he, hrun]; rfl
  · obtain ⟨r1, e1⟩ := hr.drew
    obtain ⟨r2, e2⟩ := r1.drew
    obtain ⟨r3, e3⟩ := r2.push (l := List.replicate n .unk) (cs := cs) e (by simpa using hle) (fun k v hk => by
      rw [List.getElem?_replicate] at hk
      split at hk
      · rename_i hkn
        injection hk with hk
        subst hk
        exact ⟨cs[k], Array.getElem?_eq_getElem (by omega), by unfold RV; trivial⟩
      · cases hk)
    refine ⟨_, _, _, ?_, r3, (e1.trans e2).trans e3, rfl, rfl⟩
    have hn' : (ι ++ [Loc.at w.drew.drew.heap.size 0 cs.size])[H.n]? = some (.at w.heap.size 0 cs.size) := by
      unfold AH.n; rw [← hr.len]; simp
    unfold RV RSlice
    simp only [Bool.false_eq_true, if_false]
    rw [hn']
    exact .inl ⟨cs.size, hle, by omega, rfl⟩
end Go.Abs
