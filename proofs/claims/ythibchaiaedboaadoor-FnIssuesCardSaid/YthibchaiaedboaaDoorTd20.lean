/- Issues: the spans of days on which an issue is true, by the program and by the reference. No condition but what a slice may hold. -/
import Derived.Test.YthibchaiaedboaaDoorTr20
import Derived.Test.YthibchaiaedboaaDoorTp20
import Derived.Test.YthibchaiaedboaaDoorStore
namespace Go.Proofs.YthibchaiaedboaaDoor
open Go.RowKit
end Go.Proofs.YthibchaiaedboaaDoor
