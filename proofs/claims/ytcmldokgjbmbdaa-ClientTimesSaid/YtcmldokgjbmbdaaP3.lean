/- The plain law of clients: numbers of calls, calls, open calls, replies; what a client makes of what comes. -/
import Derived.Test.YtcmldokgjbmbdaaP2
namespace Go.Proofs.Ytcmldokgjbmbdaa
open Go Go.AM
set_option linter.unusedVariables false
set_option maxRecDepth 100000
set_option linter.unusedSimpArgs false

/-- A call's number: client, number, nested number. -/
structure IdS where
  c : Int
  s : Int
  n : Int
  deriving Inhabited
instance : Inhabited V := ⟨.mk 0 0 0 ⟨#[]⟩ []⟩
structure OpS where
  id : IdS
  g : ByteArray
  m : ByteArray
  a : List V
  deriving Inhabited
structure OpenS where
  o : OpS
  age : Int
  now : Bool
  deriving Inhabited
structure RepS where
  id : IdS
  e : Int
  v : V
  deriving Inhabited
namespace IdS
def cc (i : IdS) : List CV := [.v (.int .u32 i.c), .v (.int .u32 i.s), .v (.int .u16 i.n)]
def ca (i : IdS) : List AV := [.c (.v (.int .u32 i.c)), .c (.v (.int .u32 i.s)), .c (.v (.int .u16 i.n))]
end IdS
namespace OpS
def cc (o : OpS) : List CV := [.v (.int .u32 o.id.c), .v (.int .u32 o.id.s), .v (.int .u16 o.id.n), .v (.string o.g), .v (.string o.m), .sl 5 (o.a.map V.cv)]
end OpS
namespace OpenS
def cc (x : OpenS) : List CV := [.v (.int .u32 x.o.id.c), .v (.int .u32 x.o.id.s), .v (.int .u16 x.o.id.n), .v (.string x.o.g), .v (.string x.o.m), .sl 5 (x.o.a.map V.cv), .v (.int .i64 x.age), .v (.bool x.now)]
end OpenS
namespace RepS
def cc (r : RepS) : List CV := [.v (.int .u32 r.id.c), .v (.int .u32 r.id.s), .v (.int .u16 r.id.n), .v (.int .i64 r.e), .v (.int .i64 r.v.kind), .v (.int .i64 r.v.i), .fl r.v.f, .v (.string r.v.s), .sl 5 (r.v.l.map V.cv)]
end RepS
def GD : Elt IdS := ⟨fun i => .agg i.cc, 3, by decide, fun _ => rfl, fun _ => rfl, fun a c hc => by
  simp [CV.cells, IdS.cc] at hc; rcases hc with rfl | rfl | rfl <;> rfl⟩
def GO : Elt OpS := ⟨fun o => .agg o.cc, 6, by decide, fun _ => rfl, fun _ => rfl, fun a c hc => by
  simp [CV.cells, OpS.cc] at hc; rcases hc with rfl | rfl | rfl | rfl | rfl | rfl <;> rfl⟩
def GN : Elt OpenS := ⟨fun x => .agg x.cc, 8, by decide, fun _ => rfl, fun _ => rfl, fun a c hc => by
  simp [CV.cells, OpenS.cc] at hc; rcases hc with rfl | rfl | rfl | rfl | rfl | rfl | rfl | rfl <;> rfl⟩
def GP : Elt RepS := ⟨fun r => .agg r.cc, 9, by decide, fun _ => rfl, fun _ => rfl, fun a c hc => by
  simp [CV.cells, RepS.cc] at hc; rcases hc with rfl | rfl | rfl | rfl | rfl | rfl | rfl | rfl | rfl <;> rfl⟩
def nilV : V := .mk 0 0 0 ⟨#[]⟩ []
def s0 : ByteArray := ⟨#[]⟩
def idEq (a b : IdS) : Bool := a.c == b.c && (a.s == b.s && a.n == b.n)
theorem idEq_refl (a : IdS) : idEq a a = true := by simp [idEq]

/-! a client: its number, its last call's number, calls that are open, answers -/
structure St where
  id : Int
  seq : Int
  os : List OpenS
  rs : List RepS
def nameS (s : ByteArray) : Bool := !(s.toList == s0.toList) && decide ((s.size : Int) ≤ 32)
def badS (g m : ByteArray) (l : List V) : Bool := !nameS g || (!nameS m || (decide ((l.length : Int) > 16) || l.any fun v => checkS v != 0))
def zeroId : IdS := ⟨0, 0, 0⟩
def newOp (st : St) (g m : ByteArray) (l : List V) : OpS := ⟨⟨st.id, IntKind.u32.wrap (st.seq + 1), 0⟩, g, m, l.map cleanS⟩
def callS (st : St) (g m : ByteArray) (l : List V) : St × IdS × Int :=
  if badS g m l then (st, zeroId, 31) else if decide ((st.os.length : Int) ≥ 4) then (st, zeroId, 42) else
    (⟨st.id, IntKind.u32.wrap (st.seq + 1), st.os ++ [⟨newOp st g m l, 0, true⟩], st.rs⟩, (newOp st g m l).id, 0)
def outL (os : List OpenS) : List OpS := (os.filter (·.now)).map (·.o)
def outS (st : St) : St := { st with os := st.os.map fun x => { x with now := false } }
def ansR (r : RepS) : RepS := ⟨r.id, r.e, cleanS r.v⟩
def ansS (st : St) (i : Nat) (r : RepS) : St := { st with os := st.os.eraseIdx i, rs := st.rs ++ [ansR r] }
def recvS (st : St) (r : RepS) : St × Bool :=
  match st.os.findIdx? (fun x => idEq x.o.id r.id) with
  | none => (st, false)
  | some i => if r.e == 41 || r.e == 42 then (st, false) else (ansS st i r, true)
def timeR (x : OpenS) : RepS := ⟨x.o.id, 40, nilV⟩
def ageX (x : OpenS) : OpenS := ⟨x.o, IntKind.i64.wrap (x.age + 1), x.now || (IntKind.i64.wrap (x.age + 1)).tmod 10 == 0⟩
def oldX (x : OpenS) : Bool := decide (IntKind.i64.wrap (x.age + 1) ≥ 3000)
def tickK (os : List OpenS) : List OpenS := (os.filter fun x => !oldX x).map ageX
def tickR (os : List OpenS) : List RepS := (os.filter oldX).map timeR
def tickS (st : St) : St := { st with os := tickK st.os, rs := st.rs ++ tickR st.os }
/-- What is always so of a client. -/
structure Good (st : St) : Prop where
  len : st.os.length ≤ 4
  args : ∀ x ∈ st.os, x.o.a.length ≤ 16 ∧ ∀ v ∈ x.o.a, smallS v = true ∧ cleanS v = v
  age : ∀ x ∈ st.os, 0 ≤ x.age ∧ x.age < 3000
  vals : ∀ r ∈ st.rs, smallS r.v = true ∧ cleanS r.v = r.v
end Go.Proofs.Ytcmldokgjbmbdaa
