/- A region that draws its order, whose operations read and whose callees may make memory of their own: one walk of the lexical order, in every world that is as the first one below its heap's end. -/
import Derived.Test.YteelmhmdnljjnaaGreatKit
import Derived.BigQuiet
import Derived.Deep.QuietTactic
namespace Go.Proofs.YteelmhmdnljjnaaGreat
open Go.RowKit
section
variable {P : Program} {C : World → Prop} {K : Act → Prop} {a : Act} {o : Oper}
theorem wp_region_below {id : Nat} {Q : Exit → Act → World → Prop} {w : World} {l : List Oper} (hm : P.follows .mixedOrders = true) (hB : Region.lexB .any l.toArray = true)
    (h : wpQuiet P l.toArray (fun w' => Below w.heap.size w w') (fun a' => ∀ w', Below w.heap.size w w' → Q .normal a' w') l a) : (Code.region id l.toArray true).wp P Q a w :=
  wp_region_quiet (C := fun w' => Below w.heap.size w w') hm hB ⟨rfl, rfl, rfl, Nat.le_refl _, fun _ _ => rfl⟩ (by simpa using h)
theorem quietV {ops : Array Oper} {Q : Act → Prop} {rest : List Oper} {ts : Array Value} {ds : List Deferred} {v : Value} {d : Nat} (hw : Region.wanted o (yielded ops ts) = true) (hd : o.dst = some d) (h1 : ∀ w', C w' → o.quietAt P { tmps := ts, defers := ds } C w' v)
    (h2 : wpQuiet P ops C Q rest { tmps := ts.setIfInBounds d v, defers := ds }) : wpQuiet P ops C Q (o :: rest) { tmps := ts, defers := ds } :=
  wpQuiet_step fun K hK => by rw [if_pos hw]; exact ⟨v, h1, by rw [hd]; exact hK _ h2⟩
theorem quietB {v : Value} (h1 : ∀ w', C w' → o.quietAt P a C w' v) (h2 : K (a.put o.dst v)) : o.quiet P a C K := ⟨v, h1, h2⟩
theorem callsB {f : FuncId} {args : Array Value} {w w' : World} {v : Value} (h : Calls P f args w' (Ret w' v)) (hb : Below w.heap.size w w') :
    Calls P f args w' (fun e w'' => e = .returned v ∧ Below w.heap.size w w'') := h.mono fun _ _ ⟨he, h2⟩ => ⟨he, bel_trans hb h2⟩
theorem callsBB {f : FuncId} {args : Array Value} {w w' : World} {b b' : Bool} (h : Calls P f args w' (Ret w' (.bool b))) (e : b = b') (hb : Below w.heap.size w w') :
    Calls P f args w' (fun e w'' => e = .returned (.bool b') ∧ Below w.heap.size w w'') := by subst e; exact callsB h hb
theorem callsBI {f : FuncId} {args : Array Value} {w w' : World} {b b' : Int} (h : Calls P f args w' (Ret w' (.int .i64 b))) (e : b = b') (hb : Below w.heap.size w w') :
    Calls P f args w' (fun e w'' => e = .returned (.int .i64 b') ∧ Below w.heap.size w w'') := by subst e; exact callsB h hb
end
end Go.Proofs.YteelmhmdnljjnaaGreat
