import Derived.WalkKit
import Derived.Handy
import Derived.StillTailTactics
import Derived.BigQuiet
open Lean Elab Tactic Meta
namespace Go
/-- dev only -/
elab "dbg" : tactic => do
  let mut k := 0
  for g in ← getGoals do
    g.withContext do
      let mut hyps : Array MessageData := #[]
      for d in ← getLCtx do
        if d.isImplementationDetail then continue
        let ty ← instantiateMVars d.type
        if (ty.find? (fun e => e.isConstOf ``Code.wp || e.isConstOf ``wpList || e.isConstOf ``wpAny || e.isConstOf ``bodyPost || e.isConstOf ``wpQuiet)).isSome then continue
        if ty.isForall && (ty.find? (fun e => e.isConstOf ``Act)).isSome then continue
        hyps := hyps.push m!"{d.userName} : {ty}"
      let t := (← instantiateMVars (← g.getType)).consumeMData
      let m ← if t.isAppOf ``Calls then
          pure m!"Calls {t.getAppArgs[1]!} {t.getAppArgs[2]!} in {t.getAppArgs[3]!}"
        else if t.isAppOf ``Code.wp then
          let c := t.getAppArgs[1]!
          pure m!"Code.wp head {c.getAppFn} (arg {if c.isAppOf ``Code.region then c.getAppArgs[0]! else mkNatLit 0}) act {t.getAppArgs[3]!} in {t.getAppArgs[4]!}"
        else if t.isAppOf ``wpStill then pure m!"wpStill: rest {t.getAppArgs[4]!} act {t.getAppArgs[5]!}"
        else if t.isAppOf ``wpList || t.isAppOf ``wpQuiet then
          let l := t.getAppArgs[if t.isAppOf ``wpList then 3 else 4]!
          pure m!"{t.getAppFn}: next {if l.isAppOfArity ``List.cons 3 then l.getAppArgs[1]! else l} act {t.getAppArgs[if t.isAppOf ``wpList then 4 else 5]!} "
        else if t.isAppOf ``Oper.upon then
          pure m!"upon {t.getAppArgs[1]!} act {t.getAppArgs[2]!} RES {t.appArg!}"
        else if t.isAppOf ``bodyPost then
          pure m!"bodyPost R {t.getAppArgs[2]!} exit {t.getAppArgs[3]!} act {t.getAppArgs[4]!} in {t.getAppArgs[5]!}"
        else if t.isAppOf ``Code.rounds then pure m!"Code.rounds args {(t.getAppArgs.toList.drop 3)}"
        else pure m!"{t}"
      logInfo m!"GOAL {k}\n{MessageData.joinSep hyps.toList "\n"}\n⊢ {m}"
    k := k + 1
end Go
