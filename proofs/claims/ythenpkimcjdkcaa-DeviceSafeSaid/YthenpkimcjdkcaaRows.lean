/-
  No cell of these rows narrows 'for every input' (looked for: loops, veiled, ifaces, maps, wideKeys, modest, calm, conditions, laid).
  DERIVED. THE GIVEN ROWS OF THIS SEAT. 11 by the template 'for every input the law returns true; each argument reads behind the call as it read before'; 0 by the template 'total and deterministic' (their statements: YthenpkimcjdkcaaTotals.lean).
  GIVEN WITH THE SEED: the statements are not yours to turn. If you find one false, say at which input.
  Laid BY PROGRAM, IN A SANDBOX (cutbox-rows.mjs): the forced cells as the released guide's own fill.sh prints them over the translation ed8c9f54f0dc2b83… (all of the seat's roots in one cut). By AI agents, Wed Nov 11 2026. No macro, syntax, notation, axiom, sorry.
-/
import Derived.Test.YthenpkimcjdkcaaChecked
import GoSem.Claim
import GoSem.ClaimJoined
import GoSem.ClaimMapViews
import Derived.JoinedTies
import Derived.KernelRfl
namespace Go.Proofs.Ythenpkimcjdkcaa
/- THE CELL 'sum', in the pinned program and in every row, IS THE sha256 OF THE DUMP (.gsa) THAT YthenpkimcjdkcaaProg.lean LOADS. Nothing in Lean hashes anything: it is a label: what it is worth is what the hold of that sum in a sandbox is worth. -/
noncomputable def Try.pinned : Pinned := { name := "ythenpkimcjdkcaa", sum := "ed8c9f54f0dc2b8364025db3ba665b98ee1b09a8ff7b957c8e2dff8d5c652bd2", checked := Try.checked }
namespace Rows
def none {H : Type} : Left H := { results := [], args := [] }

/-- 'cofferdamlaw07.DeviceSafe': WHATEVER THE INPUT: true; the input reads as it did. -/
def deviceSafeSpec : ChangeSpec := { name := "deviceSafe", fn := fun _ => fun
  | [d1, d2, d3] => { results := [.lit (.bool true)], args := [d1, d2, d3] }
  | _ => none }
def deviceSafeRow : OpenClaim := { program := "ythenpkimcjdkcaa", sum := "ed8c9f54f0dc2b8364025db3ba665b98ee1b09a8ff7b957c8e2dff8d5c652bd2", func := "cofferdam/cofferdamlaw07.DeviceSafe", spec := "deviceSafe", inPlace := ["maps.clone"], plainKeys := false, apart := false }
def DeviceSafeSaid : Prop := deviceSafeRow.holds Try.pinned (OpenSpec.ofChange deviceSafeSpec)

/-- ITS FALSE NEIGHBOUR: 'it returns false'. Refute it at one input. -/
def deviceSafeWrong : ChangeSpec := { name := "deviceSafe", fn := fun _ => fun
  | [d1, d2, d3] => { results := [.lit (.bool false)], args := [d1, d2, d3] }
  | _ => none }
def DeviceSafeWrongFalsely : Prop := deviceSafeRow.holds Try.pinned (OpenSpec.ofChange deviceSafeWrong)

/-- 'cofferdamlaw07.DeviceSure': WHATEVER THE INPUT: true; the input reads as it did. -/
def deviceSureSpec : ChangeSpec := { name := "deviceSure", fn := fun _ => fun
  | [d1, d2, d3] => { results := [.lit (.bool true)], args := [d1, d2, d3] }
  | _ => none }
def deviceSureRow : OpenClaim := { program := "ythenpkimcjdkcaa", sum := "ed8c9f54f0dc2b8364025db3ba665b98ee1b09a8ff7b957c8e2dff8d5c652bd2", func := "cofferdam/cofferdamlaw07.DeviceSure", spec := "deviceSure", inPlace := ["maps.clone"], plainKeys := false, apart := false }
def DeviceSureSaid : Prop := deviceSureRow.holds Try.pinned (OpenSpec.ofChange deviceSureSpec)

/-- ITS FALSE NEIGHBOUR: 'it returns false'. Refute it at one input. -/
def deviceSureWrong : ChangeSpec := { name := "deviceSure", fn := fun _ => fun
  | [d1, d2, d3] => { results := [.lit (.bool false)], args := [d1, d2, d3] }
  | _ => none }
def DeviceSureWrongFalsely : Prop := deviceSureRow.holds Try.pinned (OpenSpec.ofChange deviceSureWrong)

/-- 'cofferdamlaw07.DeviceHeals': WHATEVER THE INPUT: true; the input reads as it did. -/
def deviceHealsSpec : ChangeSpec := { name := "deviceHeals", fn := fun _ => fun
  | [d1, d2, d3] => { results := [.lit (.bool true)], args := [d1, d2, d3] }
  | _ => none }
def deviceHealsRow : OpenClaim := { program := "ythenpkimcjdkcaa", sum := "ed8c9f54f0dc2b8364025db3ba665b98ee1b09a8ff7b957c8e2dff8d5c652bd2", func := "cofferdam/cofferdamlaw07.DeviceHeals", spec := "deviceHeals", inPlace := ["maps.clone"], plainKeys := false, apart := false }
def DeviceHealsSaid : Prop := deviceHealsRow.holds Try.pinned (OpenSpec.ofChange deviceHealsSpec)

/-- ITS FALSE NEIGHBOUR: 'it returns false'. Refute it at one input. -/
def deviceHealsWrong : ChangeSpec := { name := "deviceHeals", fn := fun _ => fun
  | [d1, d2, d3] => { results := [.lit (.bool false)], args := [d1, d2, d3] }
  | _ => none }
def DeviceHealsWrongFalsely : Prop := deviceHealsRow.holds Try.pinned (OpenSpec.ofChange deviceHealsWrong)

/-- 'cofferdamlaw07.DeviceSettled': WHATEVER THE INPUT: true; the input reads as it did. -/
def deviceSettledSpec : ChangeSpec := { name := "deviceSettled", fn := fun _ => fun
  | [d1, d2, d3] => { results := [.lit (.bool true)], args := [d1, d2, d3] }
  | _ => none }
def deviceSettledRow : OpenClaim := { program := "ythenpkimcjdkcaa", sum := "ed8c9f54f0dc2b8364025db3ba665b98ee1b09a8ff7b957c8e2dff8d5c652bd2", func := "cofferdam/cofferdamlaw07.DeviceSettled", spec := "deviceSettled", inPlace := ["maps.clone"], plainKeys := false, apart := false }
def DeviceSettledSaid : Prop := deviceSettledRow.holds Try.pinned (OpenSpec.ofChange deviceSettledSpec)

/-- ITS FALSE NEIGHBOUR: 'it returns false'. Refute it at one input. -/
def deviceSettledWrong : ChangeSpec := { name := "deviceSettled", fn := fun _ => fun
  | [d1, d2, d3] => { results := [.lit (.bool false)], args := [d1, d2, d3] }
  | _ => none }
def DeviceSettledWrongFalsely : Prop := deviceSettledRow.holds Try.pinned (OpenSpec.ofChange deviceSettledWrong)

/-- 'cofferdamlaw07.DeviceEnds': WHATEVER THE INPUT: true; the input reads as it did. -/
def deviceEndsSpec : ChangeSpec := { name := "deviceEnds", fn := fun _ => fun
  | [d1, d2, d3] => { results := [.lit (.bool true)], args := [d1, d2, d3] }
  | _ => none }
def deviceEndsRow : OpenClaim := { program := "ythenpkimcjdkcaa", sum := "ed8c9f54f0dc2b8364025db3ba665b98ee1b09a8ff7b957c8e2dff8d5c652bd2", func := "cofferdam/cofferdamlaw07.DeviceEnds", spec := "deviceEnds", inPlace := ["maps.clone"], plainKeys := false, apart := false }
def DeviceEndsSaid : Prop := deviceEndsRow.holds Try.pinned (OpenSpec.ofChange deviceEndsSpec)

/-- ITS FALSE NEIGHBOUR: 'it returns false'. Refute it at one input. -/
def deviceEndsWrong : ChangeSpec := { name := "deviceEnds", fn := fun _ => fun
  | [d1, d2, d3] => { results := [.lit (.bool false)], args := [d1, d2, d3] }
  | _ => none }
def DeviceEndsWrongFalsely : Prop := deviceEndsRow.holds Try.pinned (OpenSpec.ofChange deviceEndsWrong)

/-- 'cofferdamlaw07.DeviceTogether': WHATEVER THE INPUT: true; the input reads as it did. -/
def deviceTogetherSpec : ChangeSpec := { name := "deviceTogether", fn := fun _ => fun
  | [d1, d2, d3] => { results := [.lit (.bool true)], args := [d1, d2, d3] }
  | _ => none }
def deviceTogetherRow : OpenClaim := { program := "ythenpkimcjdkcaa", sum := "ed8c9f54f0dc2b8364025db3ba665b98ee1b09a8ff7b957c8e2dff8d5c652bd2", func := "cofferdam/cofferdamlaw07.DeviceTogether", spec := "deviceTogether", inPlace := ["maps.clone"], plainKeys := false, apart := false }
def DeviceTogetherSaid : Prop := deviceTogetherRow.holds Try.pinned (OpenSpec.ofChange deviceTogetherSpec)

/-- ITS FALSE NEIGHBOUR: 'it returns false'. Refute it at one input. -/
def deviceTogetherWrong : ChangeSpec := { name := "deviceTogether", fn := fun _ => fun
  | [d1, d2, d3] => { results := [.lit (.bool false)], args := [d1, d2, d3] }
  | _ => none }
def DeviceTogetherWrongFalsely : Prop := deviceTogetherRow.holds Try.pinned (OpenSpec.ofChange deviceTogetherWrong)

/-- 'cofferdamlaw07.DeviceNil': WHATEVER THE INPUT: true; the input reads as it did. -/
def deviceNilSpec : ChangeSpec := { name := "deviceNil", fn := fun _ => fun
  | [d1, d2] => { results := [.lit (.bool true)], args := [d1, d2] }
  | _ => none }
def deviceNilRow : OpenClaim := { program := "ythenpkimcjdkcaa", sum := "ed8c9f54f0dc2b8364025db3ba665b98ee1b09a8ff7b957c8e2dff8d5c652bd2", func := "cofferdam/cofferdamlaw07.DeviceNil", spec := "deviceNil", inPlace := ["maps.clone"], plainKeys := false, apart := false }
def DeviceNilSaid : Prop := deviceNilRow.holds Try.pinned (OpenSpec.ofChange deviceNilSpec)

/-- ITS FALSE NEIGHBOUR: 'it returns false'. Refute it at one input. -/
def deviceNilWrong : ChangeSpec := { name := "deviceNil", fn := fun _ => fun
  | [d1, d2] => { results := [.lit (.bool false)], args := [d1, d2] }
  | _ => none }
def DeviceNilWrongFalsely : Prop := deviceNilRow.holds Try.pinned (OpenSpec.ofChange deviceNilWrong)

/-- 'cofferdamlaw17.CacheLast': WHATEVER THE INPUT: true; the input reads as it did. -/
def cacheLastSpec : ChangeSpec := { name := "cacheLast", fn := fun _ => fun
  | [d] => { results := [.lit (.bool true)], args := [d] }
  | _ => none }
def cacheLastRow : OpenClaim := { program := "ythenpkimcjdkcaa", sum := "ed8c9f54f0dc2b8364025db3ba665b98ee1b09a8ff7b957c8e2dff8d5c652bd2", func := "cofferdam/cofferdamlaw17.CacheLast", spec := "cacheLast", plainKeys := false, apart := false }
def CacheLastSaid : Prop := cacheLastRow.holds Try.pinned (OpenSpec.ofChange cacheLastSpec)

/-- ITS FALSE NEIGHBOUR: 'it returns false'. Refute it at one input. -/
def cacheLastWrong : ChangeSpec := { name := "cacheLast", fn := fun _ => fun
  | [d] => { results := [.lit (.bool false)], args := [d] }
  | _ => none }
def CacheLastWrongFalsely : Prop := cacheLastRow.holds Try.pinned (OpenSpec.ofChange cacheLastWrong)

/-- 'cofferdamlaw17.CacheNil': WHATEVER THE INPUT: true; the input reads as it did. -/
def cacheNilSpec : ChangeSpec := { name := "cacheNil", fn := fun _ => fun
  | [d1, d2] => { results := [.lit (.bool true)], args := [d1, d2] }
  | _ => none }
def cacheNilRow : OpenClaim := { program := "ythenpkimcjdkcaa", sum := "ed8c9f54f0dc2b8364025db3ba665b98ee1b09a8ff7b957c8e2dff8d5c652bd2", func := "cofferdam/cofferdamlaw17.CacheNil", spec := "cacheNil", unfollowed := true, recurses := true, plainKeys := false, apart := false }
def CacheNilSaid : Prop := cacheNilRow.holds Try.pinned (OpenSpec.ofChange cacheNilSpec)

/-- ITS FALSE NEIGHBOUR: 'it returns false'. Refute it at one input. -/
def cacheNilWrong : ChangeSpec := { name := "cacheNil", fn := fun _ => fun
  | [d1, d2] => { results := [.lit (.bool false)], args := [d1, d2] }
  | _ => none }
def CacheNilWrongFalsely : Prop := cacheNilRow.holds Try.pinned (OpenSpec.ofChange cacheNilWrong)

/-- 'cofferdamlaw17.CacheSeen': WHATEVER THE INPUT: true; the input reads as it did. -/
def cacheSeenSpec : ChangeSpec := { name := "cacheSeen", fn := fun _ => fun
  | [d] => { results := [.lit (.bool true)], args := [d] }
  | _ => none }
def cacheSeenRow : OpenClaim := { program := "ythenpkimcjdkcaa", sum := "ed8c9f54f0dc2b8364025db3ba665b98ee1b09a8ff7b957c8e2dff8d5c652bd2", func := "cofferdam/cofferdamlaw17.CacheSeen", spec := "cacheSeen", unfollowed := true, recurses := true, plainKeys := false, apart := false }
def CacheSeenSaid : Prop := cacheSeenRow.holds Try.pinned (OpenSpec.ofChange cacheSeenSpec)

/-- ITS FALSE NEIGHBOUR: 'it returns false'. Refute it at one input. -/
def cacheSeenWrong : ChangeSpec := { name := "cacheSeen", fn := fun _ => fun
  | [d] => { results := [.lit (.bool false)], args := [d] }
  | _ => none }
def CacheSeenWrongFalsely : Prop := cacheSeenRow.holds Try.pinned (OpenSpec.ofChange cacheSeenWrong)

/-- 'cofferdamlaw17.CachePlays': WHATEVER THE INPUT: true; the input reads as it did. -/
def cachePlaysSpec : ChangeSpec := { name := "cachePlays", fn := fun _ => fun
  | [d] => { results := [.lit (.bool true)], args := [d] }
  | _ => none }
def cachePlaysRow : OpenClaim := { program := "ythenpkimcjdkcaa", sum := "ed8c9f54f0dc2b8364025db3ba665b98ee1b09a8ff7b957c8e2dff8d5c652bd2", func := "cofferdam/cofferdamlaw17.CachePlays", spec := "cachePlays", unfollowed := true, recurses := true, plainKeys := false, apart := false }
def CachePlaysSaid : Prop := cachePlaysRow.holds Try.pinned (OpenSpec.ofChange cachePlaysSpec)

/-- ITS FALSE NEIGHBOUR: 'it returns false'. Refute it at one input. -/
def cachePlaysWrong : ChangeSpec := { name := "cachePlays", fn := fun _ => fun
  | [d] => { results := [.lit (.bool false)], args := [d] }
  | _ => none }
def CachePlaysWrongFalsely : Prop := cachePlaysRow.holds Try.pinned (OpenSpec.ofChange cachePlaysWrong)

/- THE SECOND FORM. 'bulk': how many values and letters a reading holds, each counted each time it is reached (what is shared counts as often as it is met; a slice's spare places count too). A statement '..UptoSaid' is the law's where the arguments, and the package variables that the reading takes, are together of bulk at most 1048576: NARROWER than '..Said'. Prove '..Said' where nothing that the law and all that it calls make is longer than what came in: it says more and counts as full. Else prove '..UptoSaid'. A law counts once. -/
mutual
def uptoBulk {H : Type} : DataW H → Nat
  | .lit (.string bytes) => bytes.length + 1
  | .lit _ => 1
  | .nil => 1
  | .ptr d => uptoBulk d + 1
  | .slice elems spare => uptoBulkAll elems + uptoBulkAll spare + 1
  | .agg parts => uptoBulkAll parts + 1
  | .iface _ d => uptoBulk d + 1
  | .map entries => uptoBulkEntries entries + 1
  | .held _ => 1
def uptoBulkAll {H : Type} : List (DataW H) → Nat
  | [] => 0
  | d :: r => uptoBulk d + uptoBulkAll r
def uptoBulkEntries {H : Type} : List (Lit × DataW H) → Nat
  | [] => 0
  | x :: r => uptoBulkEntry x + uptoBulkEntries r
def uptoBulkEntry {H : Type} : Lit × DataW H → Nat
  | (.string bytes, d) => bytes.length + uptoBulk d + 1
  | (_, d) => uptoBulk d + 1
 end
def uptoSmall : (H : Type) → List (DataW H) → Bool := fun _ ds => decide (uptoBulkAll ds ≤ 1048576)
def OpenSpec.upto (s : _root_.Go.ChangeSpec) : _root_.Go.OpenSpec := { _root_.Go.OpenSpec.ofChange s with cond := some uptoSmall }

/-- 'cofferdamlaw07.DeviceSafe', WHERE WHAT IT READS IS OF BULK AT MOST 1048576: true; the input reads as it did. -/
def deviceSafeUptoRow : OpenClaim := { program := "ythenpkimcjdkcaa", sum := "ed8c9f54f0dc2b8364025db3ba665b98ee1b09a8ff7b957c8e2dff8d5c652bd2", func := "cofferdam/cofferdamlaw07.DeviceSafe", spec := "deviceSafe", inPlace := ["maps.clone"], plainKeys := false, apart := false, narrowed := true }
def DeviceSafeUptoSaid : Prop := deviceSafeUptoRow.holds Try.pinned (OpenSpec.upto deviceSafeSpec)

/-- 'cofferdamlaw07.DeviceSure', WHERE WHAT IT READS IS OF BULK AT MOST 1048576: true; the input reads as it did. -/
def deviceSureUptoRow : OpenClaim := { program := "ythenpkimcjdkcaa", sum := "ed8c9f54f0dc2b8364025db3ba665b98ee1b09a8ff7b957c8e2dff8d5c652bd2", func := "cofferdam/cofferdamlaw07.DeviceSure", spec := "deviceSure", inPlace := ["maps.clone"], plainKeys := false, apart := false, narrowed := true }
def DeviceSureUptoSaid : Prop := deviceSureUptoRow.holds Try.pinned (OpenSpec.upto deviceSureSpec)

/-- 'cofferdamlaw07.DeviceHeals', WHERE WHAT IT READS IS OF BULK AT MOST 1048576: true; the input reads as it did. -/
def deviceHealsUptoRow : OpenClaim := { program := "ythenpkimcjdkcaa", sum := "ed8c9f54f0dc2b8364025db3ba665b98ee1b09a8ff7b957c8e2dff8d5c652bd2", func := "cofferdam/cofferdamlaw07.DeviceHeals", spec := "deviceHeals", inPlace := ["maps.clone"], plainKeys := false, apart := false, narrowed := true }
def DeviceHealsUptoSaid : Prop := deviceHealsUptoRow.holds Try.pinned (OpenSpec.upto deviceHealsSpec)

/-- 'cofferdamlaw07.DeviceSettled', WHERE WHAT IT READS IS OF BULK AT MOST 1048576: true; the input reads as it did. -/
def deviceSettledUptoRow : OpenClaim := { program := "ythenpkimcjdkcaa", sum := "ed8c9f54f0dc2b8364025db3ba665b98ee1b09a8ff7b957c8e2dff8d5c652bd2", func := "cofferdam/cofferdamlaw07.DeviceSettled", spec := "deviceSettled", inPlace := ["maps.clone"], plainKeys := false, apart := false, narrowed := true }
def DeviceSettledUptoSaid : Prop := deviceSettledUptoRow.holds Try.pinned (OpenSpec.upto deviceSettledSpec)

/-- 'cofferdamlaw07.DeviceEnds', WHERE WHAT IT READS IS OF BULK AT MOST 1048576: true; the input reads as it did. -/
def deviceEndsUptoRow : OpenClaim := { program := "ythenpkimcjdkcaa", sum := "ed8c9f54f0dc2b8364025db3ba665b98ee1b09a8ff7b957c8e2dff8d5c652bd2", func := "cofferdam/cofferdamlaw07.DeviceEnds", spec := "deviceEnds", inPlace := ["maps.clone"], plainKeys := false, apart := false, narrowed := true }
def DeviceEndsUptoSaid : Prop := deviceEndsUptoRow.holds Try.pinned (OpenSpec.upto deviceEndsSpec)

/-- 'cofferdamlaw07.DeviceTogether', WHERE WHAT IT READS IS OF BULK AT MOST 1048576: true; the input reads as it did. -/
def deviceTogetherUptoRow : OpenClaim := { program := "ythenpkimcjdkcaa", sum := "ed8c9f54f0dc2b8364025db3ba665b98ee1b09a8ff7b957c8e2dff8d5c652bd2", func := "cofferdam/cofferdamlaw07.DeviceTogether", spec := "deviceTogether", inPlace := ["maps.clone"], plainKeys := false, apart := false, narrowed := true }
def DeviceTogetherUptoSaid : Prop := deviceTogetherUptoRow.holds Try.pinned (OpenSpec.upto deviceTogetherSpec)

/-- 'cofferdamlaw07.DeviceNil', WHERE WHAT IT READS IS OF BULK AT MOST 1048576: true; the input reads as it did. -/
def deviceNilUptoRow : OpenClaim := { program := "ythenpkimcjdkcaa", sum := "ed8c9f54f0dc2b8364025db3ba665b98ee1b09a8ff7b957c8e2dff8d5c652bd2", func := "cofferdam/cofferdamlaw07.DeviceNil", spec := "deviceNil", inPlace := ["maps.clone"], plainKeys := false, apart := false, narrowed := true }
def DeviceNilUptoSaid : Prop := deviceNilUptoRow.holds Try.pinned (OpenSpec.upto deviceNilSpec)

/-- 'cofferdamlaw17.CacheLast', WHERE WHAT IT READS IS OF BULK AT MOST 1048576: true; the input reads as it did. -/
def cacheLastUptoRow : OpenClaim := { program := "ythenpkimcjdkcaa", sum := "ed8c9f54f0dc2b8364025db3ba665b98ee1b09a8ff7b957c8e2dff8d5c652bd2", func := "cofferdam/cofferdamlaw17.CacheLast", spec := "cacheLast", plainKeys := false, apart := false, narrowed := true }
def CacheLastUptoSaid : Prop := cacheLastUptoRow.holds Try.pinned (OpenSpec.upto cacheLastSpec)

/-- 'cofferdamlaw17.CacheNil', WHERE WHAT IT READS IS OF BULK AT MOST 1048576: true; the input reads as it did. -/
def cacheNilUptoRow : OpenClaim := { program := "ythenpkimcjdkcaa", sum := "ed8c9f54f0dc2b8364025db3ba665b98ee1b09a8ff7b957c8e2dff8d5c652bd2", func := "cofferdam/cofferdamlaw17.CacheNil", spec := "cacheNil", unfollowed := true, recurses := true, plainKeys := false, apart := false, narrowed := true }
def CacheNilUptoSaid : Prop := cacheNilUptoRow.holds Try.pinned (OpenSpec.upto cacheNilSpec)

/-- 'cofferdamlaw17.CacheSeen', WHERE WHAT IT READS IS OF BULK AT MOST 1048576: true; the input reads as it did. -/
def cacheSeenUptoRow : OpenClaim := { program := "ythenpkimcjdkcaa", sum := "ed8c9f54f0dc2b8364025db3ba665b98ee1b09a8ff7b957c8e2dff8d5c652bd2", func := "cofferdam/cofferdamlaw17.CacheSeen", spec := "cacheSeen", unfollowed := true, recurses := true, plainKeys := false, apart := false, narrowed := true }
def CacheSeenUptoSaid : Prop := cacheSeenUptoRow.holds Try.pinned (OpenSpec.upto cacheSeenSpec)

/-- 'cofferdamlaw17.CachePlays', WHERE WHAT IT READS IS OF BULK AT MOST 1048576: true; the input reads as it did. -/
def cachePlaysUptoRow : OpenClaim := { program := "ythenpkimcjdkcaa", sum := "ed8c9f54f0dc2b8364025db3ba665b98ee1b09a8ff7b957c8e2dff8d5c652bd2", func := "cofferdam/cofferdamlaw17.CachePlays", spec := "cachePlays", unfollowed := true, recurses := true, plainKeys := false, apart := false, narrowed := true }
def CachePlaysUptoSaid : Prop := cachePlaysUptoRow.holds Try.pinned (OpenSpec.upto cachePlaysSpec)

end Rows
end Go.Proofs.Ythenpkimcjdkcaa
