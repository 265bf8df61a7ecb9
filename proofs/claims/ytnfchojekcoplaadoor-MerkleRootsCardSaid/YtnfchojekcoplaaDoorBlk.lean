/- blocks that are known whole -/
import Derived.Test.YtnfchojekcoplaaDoorSha1
import Derived.Test.YtnfchojekcoplaaDoorBk
