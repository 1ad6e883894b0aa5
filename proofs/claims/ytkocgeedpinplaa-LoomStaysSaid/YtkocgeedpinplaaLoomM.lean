/- Layer 6: plays as numbers: what a play of one object comes to, whatever machines the object has. -/
import Derived.Test.YtkocgeedpinplaaPickP
import Derived.Test.YtkocgeedpinplaaMemC
set_option maxRecDepth 100000
namespace Go.Proofs.Ytkocgeedpinplaa
open Go.RowKit

structure AnsD where
  err : Int
  val : Nat
  list : List Nat
deriving DecidableEq
structure EvD where
  call : Nat
  inv : Nat
  resp : Nat
  steps : Nat
  ans : AnsD
  key : List Int
deriving DecidableEq
structure RepD where
  evs : List EvD
  words : List Nat
  c : CountsD
  ticks : Nat
  idle : Nat
deriving DecidableEq
/-- What machines step in. -/
structure WD where
  mem : MemD
  now : Nat
  inv : List Nat
  marks : List (List Int)
  traces : Int → List Int
/-- An operation under way: one that is refused, or one of the object's machines. -/
inductive Mc (σ : Type) where
  | refuse (e : Int)
  | run (s : σ)
/-- An object: how its operations start, step, and answer. -/
structure Sys where
  σ : Type
  ω : Type
  start : ω → WD → Nat → CallD → Mc σ
  step : ω → WD → Nat → σ → ω × WD × σ × Bool
  answer : σ → AnsD × List Int
  late : ω → WD → Nat → σ → Option (List Int)

def ans0 : AnsD := ⟨0, 0, []⟩
def ev0 : EvD := ⟨0, 0, 0, 0, ans0, []⟩
structure PlayD (S : Sys) where
  wd : WD
  obj : S.ω
  fin : List Bool
  hands : List (Option S.σ × Nat)
  evs : List EvD
  idle : Nat

def tickKey (wd : WD) : List Int := [2 * (wd.now : Int)]
/-- The key of an operation that responds. -/
def keyOf (wd : WD) (p : Nat) (k : List Int) : List Int := if k = [] then (if wd.marks.getD p [] = [] then tickKey wd else wd.marks.getD p []) else k
def finishEv (wd : WD) (p : Nat) (a : AnsD) (k : List Int) (e : EvD) : EvD := { e with steps := e.steps + 1, ans := a, resp := wd.now, key := keyOf wd p k }
def stepEv (e : EvD) : EvD := { e with steps := e.steps + 1 }
def modEv (l : List EvD) (i : Nat) (f : EvD → EvD) : List EvD := l.set i (f (l.getD i ev0))

variable (S : Sys)
/-- A machine's next step, of the thread p, whose event is number i. -/
def goStep (st : PlayD S) (p i : Nat) (s : S.σ) : PlayD S × Bool :=
  let r := S.step st.obj st.wd p s
  if r.2.2.2 then ({ st with obj := r.1, wd := r.2.1, hands := st.hands.set p (none, i), evs := modEv st.evs i (finishEv r.2.1 p (S.answer r.2.2.1).1 (S.answer r.2.2.1).2) }, true)
  else ({ st with obj := r.1, wd := r.2.1, hands := st.hands.set p (some r.2.2.1, i), evs := modEv st.evs i stepEv }, false)
def WD.tick (wd : WD) : WD := { wd with now := wd.now + 1 }
def WD.begin (wd : WD) (p : Nat) : WD := { wd with inv := wd.inv.set p wd.now, marks := wd.marks.set p [] }
def newEv (i : Nat) (wd : WD) : EvD := ⟨i, wd.now, 0, 0, ans0, []⟩
/-- How a call begins. -/
def startD (o : S.ω) (wd : WD) (p : Nat) (c : CallD) : Mc S.σ := if c.obj = 0 then S.start o wd p c else .refuse 12
def stepD (calls : List CallD) (st : PlayD S) (p i : Nat) : PlayD S × Bool :=
  match (st.hands.getD p (none, 0)).1 with
  | some s => goStep S { st with wd := st.wd.tick } p (st.hands.getD p (none, 0)).2 s
  | none =>
    let wd := st.wd.tick.begin p
    match startD S st.obj wd p (calls.getD i d0) with
    | .refuse e => ({ st with wd := wd, hands := st.hands.set p (none, st.evs.length), evs := st.evs ++ [finishEv wd p ⟨e, 0, []⟩ [] (newEv i wd)] }, true)
    | .run s => goStep S { st with wd := wd, hands := st.hands.set p (some s, st.evs.length), evs := st.evs ++ [newEv i wd] } p st.evs.length s
def pickD (calls : List CallD) (st : PlayD S) (p : Int) : PlayD S :=
  match nowN calls st.fin p with
  | none => { st with idle := st.idle + 1 }
  | some i =>
    let r := stepD S calls st p.toNat i
    if r.2 then { r.1 with fin := r.1.fin.set i true } else r.1
def picksD (calls : List CallD) (st : PlayD S) (picks : List Int) : PlayD S := picks.foldl (pickD S calls) st
/-- When operations took effect that have not responded. -/
def endEv (st : PlayD S) (evs : List EvD) (p : Nat) : List EvD :=
  match st.hands.getD p (none, 0) with
  | (none, _) => evs
  | (some s, i) => modEv evs i fun e => { e with key := (S.late st.obj st.wd p s).getD (st.wd.marks.getD p []) }
def endD (st : PlayD S) : List EvD := (List.range 16).foldl (endEv S st) st.evs
def reportD (st : PlayD S) : RepD := ⟨endD S st, st.wd.mem.ws, st.wd.mem.c, st.wd.now, st.idle⟩
def wd0 (ws : List Nat) : WD := ⟨⟨ws, c0⟩, 0, List.replicate 16 0, List.replicate 16 [], fun _ => []⟩
def play0 (o : S.ω) (ws : List Nat) (calls : List CallD) : PlayD S := ⟨wd0 ws, o, List.replicate calls.length false, List.replicate 16 (none, 0), [], 0⟩
def playD (o : S.ω) (ws : List Nat) (calls : List CallD) (picks : List Int) : RepD := reportD S (picksD S calls (play0 S o ws calls) picks)
end Go.Proofs.Ytkocgeedpinplaa
